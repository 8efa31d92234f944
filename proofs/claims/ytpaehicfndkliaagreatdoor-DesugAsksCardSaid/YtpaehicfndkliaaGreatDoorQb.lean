import Derived.Test.YtpaehicfndkliaaGreatDoorPk
import Derived.Test.YtpaehicfndkliaaGreatDoorRows
import Derived.Deep.QuietTactic
import Derived.BigQuiet

/- The reader of paths: what it may turn; how one leaves; the walks of 'Out', 'bad', 'is'. Condition: the reader lies in memory. -/
namespace Go.Proofs.YtpaehicfndkliaaGreatDoor.Pa
open Go.RowKit Go.Lib Na Go.PN

/-- Of what lay there nothing has turned, but in the blocks X. -/
structure Kp (X : List Nat) (w w' : World) : Prop where
  os : w'.os = w.os
  tape : w'.tape = w.tape
  output : w'.output = w.output
  size : w.heap.size ≤ w'.heap.size
  block : ∀ k, k < w.heap.size → k ∉ X → w'.heap[k]? = w.heap[k]?
section
variable {X : List Nat} {w w' w'' : World}
theorem Kp.refl (X : List Nat) (w : World) : Kp X w w := ⟨rfl, rfl, rfl, Nat.le_refl _, fun _ _ _ => rfl⟩
theorem Kp.trans (h : Kp X w w') (h2 : Kp X w' w'') : Kp X w w'' :=
  ⟨h2.os.trans h.os, h2.tape.trans h.tape, h2.output.trans h.output, Nat.le_trans h.size h2.size, fun k hk hx => (h2.block k (Nat.lt_of_lt_of_le hk h.size) hx).trans (h.block k hk hx)⟩
theorem Kp.of_below (h : Below w.heap.size w w') : Kp X w w' := ⟨h.os, h.tape, h.output, h.size, fun k hk _ => h.block k hk⟩
theorem Kp.then (h : Kp X w w') (h2 : Below w'.heap.size w' w'') : Kp X w w'' := h.trans (.of_below h2)
theorem Kp.alloc (h : Kp X w w') (o : Obj) : Kp X w (w'.alloc o) := h.then ((Below.refl _ _).alloc (Nat.le_refl _) o)
theorem Kp.drew (h : Kp X w w') : Kp X w w'.drew := h.then (Below.refl _ _).drew
theorem Kp.set (h : Kp X w w') {p : Addr} (hp : p.block ∈ X ∨ w.heap.size ≤ p.block) (v : Value) : Kp X w (w'.setCell p v) :=
  ⟨h.os, h.tape, h.output, by simpa [World.setCell] using h.size, fun k hk hx => (Below.heap_setCell _ _ _ _ (fun e => by
    rcases hp with hp | hp
    · exact hx (e ▸ hp)
    · omega)).trans (h.block k hk hx)⟩
theorem Kp.below (h : Kp X w w') {B : Nat} (hB : B ≤ w.heap.size) (hX : ∀ x ∈ X, B ≤ x) : Below B w w' :=
  ⟨h.os, h.tape, h.output, h.size, fun k hk => h.block k (by omega) (fun hx => by have := hX k hx; omega)⟩
theorem Kp.cell (h : Kp X w w') {p : Addr} (hp : p.block < w.heap.size) (hx : p.block ∉ X) : w'.cell? p = w.cell? p := World.cell?_of_block (w := w) (h.block p.block hp hx)
theorem Kp.frozen (h : Kp X w w') {p : Addr} (hp : p.block < w.heap.size) (hx : p.block ∉ X) : w'.frozen? p = w.frozen? p := World.frozen?_of_block (w := w) (h.block p.block hp hx)
theorem Kp.nd {a : Nd} (h : Kp X w w') (ha : a.ok w X) : a.ok w' X := ha.keep h.block
end
/-- A reader in memory. -/
structure RS (w : World) (R : Nat) (s : ByteArray) (at_ d : Int) : Prop where
  c0 : w.cell? ⟨R, 0, none⟩ = some (.string s)
  c1 : w.cell? ⟨R, 1, none⟩ = some (.int .i64 at_)
  c2 : w.cell? ⟨R, 2, none⟩ = some (.int .i64 d)
  f0 : w.frozen? ⟨R, 0, none⟩ = false
  f1 : w.frozen? ⟨R, 1, none⟩ = false
  f2 : w.frozen? ⟨R, 2, none⟩ = false
section
variable {X : List Nat} {w w' : World} {R : Nat} {s : ByteArray} {at_ d : Int}
theorem RS.lt (h : RS w R s at_ d) : R < w.heap.size := cell_lt h.c0
theorem RS.keep (h : RS w R s at_ d) (hk : w'.heap[R]? = w.heap[R]?) : RS w' R s at_ d := by
  have e : ∀ j, w'.cell? ⟨R, j, none⟩ = w.cell? ⟨R, j, none⟩ := fun j => World.cell?_of_block (w := w) hk
  have f : ∀ j, w'.frozen? ⟨R, j, none⟩ = w.frozen? ⟨R, j, none⟩ := fun j => World.frozen?_of_block (w := w) hk
  exact ⟨(e _).trans h.c0, (e _).trans h.c1, (e _).trans h.c2, (f _).trans h.f0, (f _).trans h.f1, (f _).trans h.f2⟩
theorem RS.below (h : RS w R s at_ d) (hb : Below w.heap.size w w') : RS w' R s at_ d := h.keep (hb.block R h.lt)
theorem RS.al (h : RS w R s at_ d) (o : Obj) : RS (w.alloc o) R s at_ d := h.below ((Below.refl _ _).alloc (Nat.le_refl _) o)
theorem RS.drew (h : RS w R s at_ d) : RS w.drew R s at_ d := h.below (Below.refl _ _).drew
/-- A store into a block that is not the reader's. -/
theorem RS.far (h : RS w R s at_ d) {p : Addr} (hp : p.block ≠ R) (v : Value) : RS (w.setCell p v) R s at_ d := h.keep (Below.heap_setCell _ _ _ _ (Ne.symm hp))
theorem RS.set1 (h : RS w R s at_ d) (x : Int) : RS (w.setCell ⟨R, 1, none⟩ (.int .i64 x)) R s x d := by
  have h1 := h.c0; have h2 := h.c1; have h3 := h.c2; have h4 := h.f0; have h5 := h.f1; have h6 := h.f2
  refine ⟨?_, ?_, ?_, ?_, ?_, ?_⟩ <;> go_simp
theorem RS.set2 (h : RS w R s at_ d) (x : Int) : RS (w.setCell ⟨R, 2, none⟩ (.int .i64 x)) R s at_ x := by
  have h1 := h.c0; have h2 := h.c1; have h3 := h.c2; have h4 := h.f0; have h5 := h.f1; have h6 := h.f2
  refine ⟨?_, ?_, ?_, ?_, ?_, ?_⟩ <;> go_simp
end
/-- One has left for a text that is none. -/
def Left (R : Nat) (w : World) (e : Ending) (w' : World) : Prop :=
  ∃ (b : Nat) (x : Int), e = .panicked [{ v := .iface 66 (.pointer (some ⟨b, 0, none⟩)), recovered := false }] ∧ w'.cell? ⟨b, 0, none⟩ = some (.int .i64 3) ∧ w'.cell? ⟨b, 1, none⟩ = some (.int .i64 x) ∧ w.heap.size ≤ b ∧ Kp [R] w w'
theorem Left.after {R : Nat} {w w1 w' : World} {e : Ending} (h : Kp [R] w w1) (h2 : Left R w1 e w') : Left R w e w' := by
  obtain ⟨b, x, h3, h4, h5, h6, h7⟩ := h2
  exact ⟨b, x, h3, h4, h5, Nat.le_trans h.size h6, h.trans h7⟩
theorem out_any (x : Int) (w : World) : Calls Tryz.prog 71 #[.int .i64 3, .int .i64 x] w fun e w' => e = .panicked [{ v := .iface 66 (.pointer (some ⟨w.heap.size, 0, none⟩)), recovered := false }] ∧ w' = w.alloc (.cells #[.int .i64 3, .int .i64 x] 68) := by
  go_enter Tryz.func71, Tryz.ntmps71
  go_wp2
  exact ⟨rfl, rfl, rfl⟩
theorem bad_any (R : Nat) (s : ByteArray) (at_ d : Int) (w : World) (h : RS w R s at_ d) : Calls Tryz.prog 106 #[.pointer (some ⟨R, 0, none⟩)] w (Left R w) := by
  have h1 := h.c1
  have HO := Lib.hid (fun w => out_any at_ w)
  go_enter Tryz.func106, Tryz.ntmps106
  go_wp2_with (go_at_call 71; (with_reducible refine (HO.out _).mono ?_); rintro e w' ⟨rfl, rfl⟩)
  exact ⟨rfl, w.heap.size, at_, rfl, by go_simp, by go_simp, Nat.le_refl _, (Kp.refl _ _).alloc _⟩
end Go.Proofs.YtpaehicfndkliaaGreatDoor.Pa


/- The walk of 'is'. Condition: the reader lies in memory. -/
namespace Go.Proofs.YtpaehicfndkliaaGreatDoor.Pa
open Go.RowKit Go.Lib Na Go.PN

theorem drop_get {s : ByteArray} {i : Nat} {b : UInt8} {u : List UInt8} (h : s.data.toList.drop i = b :: u) : ∃ hi : i < s.size, s[i]'hi = b := by
  have hl := congrArg List.length h
  have hz : s.data.toList.length = s.size := by simp
  rw [List.length_drop, hz, List.length_cons] at hl
  have hi : i < s.size := by omega
  refine ⟨hi, ?_⟩
  have h2 := congrArg (fun l => l[0]?) h
  simp only [List.getElem?_drop, Nat.add_zero, List.getElem?_cons_zero] at h2
  rw [List.getElem?_eq_getElem (by rw [hz]; exact hi)] at h2
  exact Option.some.inj h2
theorem drop_next {l : List UInt8} {i : Nat} {b : UInt8} {u : List UInt8} (h : l.drop i = b :: u) : l.drop (i + 1) = u := by
  rw [← List.drop_drop, h]; rfl
theorem drop_end {s : ByteArray} {i : Nat} (h : s.data.toList.drop i = []) : s.size ≤ i := by
  have hl := congrArg List.length h
  have hz : s.data.toList.length = s.size := by simp
  rw [List.length_drop, hz, List.length_nil] at hl
  omega
theorem below_drewN (B : Nat) (w : World) (n : Nat) : Below B w (w.drewN n) := ⟨rfl, rfl, rfl, Nat.le_refl _, fun _ _ => rfl⟩
set_option maxRecDepth 100000 in
set_option maxHeartbeats 4000000 in
theorem is_end (R : Nat) (s : ByteArray) (i : Nat) (d : Int) (c : UInt8) (w : World) (h : RS w R s i d) (ht : s.data.toList.drop i = []) (hm : s.size ≤ 9223372036854775806) :
    Calls Tryz.prog 117 #[.pointer (some ⟨R, 0, none⟩), .int .u8 (c.toNat : Int)] w fun e w' => e = .returned (.bool false) ∧ Kp [R] w w' ∧ RS w' R s i d := by
  have h0 := h.c0
  have h1 := h.c1
  have hi := drop_end ht
  have tg : decide (i < s.size) = false := decide_eq_false (by omega)
  have HR := Lib.hid h
  clear h ht
  go_enter Tryz.func117, Tryz.ntmps117
  go_wp2_with fail
  go_quiet (fail)
  go_wp2_with fail
  go_ret
  exact ⟨rfl, .of_below (below_drewN _ _ _), HR.out.below (below_drewN _ _ _)⟩
set_option maxRecDepth 100000 in
set_option maxHeartbeats 4000000 in
theorem is_other (R : Nat) (s : ByteArray) (i : Nat) (d : Int) (b c : UInt8) (u : List UInt8) (w : World) (h : RS w R s i d) (ht : s.data.toList.drop i = b :: u) (hm : s.size ≤ 9223372036854775806) (hbc : b ≠ c) :
    Calls Tryz.prog 117 #[.pointer (some ⟨R, 0, none⟩), .int .u8 (c.toNat : Int)] w fun e w' => e = .returned (.bool false) ∧ Kp [R] w w' ∧ RS w' R s i d := by
  have h0 := h.c0
  have h1 := h.c1
  obtain ⟨hi, hb⟩ := drop_get ht
  have tg : decide (i < s.size) = true := decide_eq_true hi
  have hi1 : (0 : Int) ≤ (i : Int) := by omega
  have hi2 : (i : Int) < (s.size : Int) := by omega
  have te : ((b.toNat : Int) == (c.toNat : Int)) = false := by
    rw [beq_eq_false_iff_ne]
    intro e
    exact hbc (UInt8.toNat_inj.1 (by omega))
  have te2 : (b.toNat == c.toNat) = false := by
    rw [beq_eq_false_iff_ne]
    intro e
    exact hbc (UInt8.toNat_inj.1 e)
  generalize hx : s[i]'hi = b' at *
  subst hb
  have HR := Lib.hid h
  clear h ht hbc
  go_enter Tryz.func117, Tryz.ntmps117
  go_wp2_with fail
  go_quiet (fail)
  go_wp2_with fail
  go_ret
  exact ⟨rfl, .of_below (below_drewN _ _ _), HR.out.below (below_drewN _ _ _)⟩
set_option maxRecDepth 100000 in
set_option maxHeartbeats 4000000 in
theorem is_that (R : Nat) (s : ByteArray) (i : Nat) (d : Int) (c : UInt8) (u : List UInt8) (w : World) (h : RS w R s i d) (ht : s.data.toList.drop i = c :: u) (hm : s.size ≤ 9223372036854775806) :
    Calls Tryz.prog 117 #[.pointer (some ⟨R, 0, none⟩), .int .u8 (c.toNat : Int)] w fun e w' => e = .returned (.bool true) ∧ Kp [R] w w' ∧ RS w' R s (i + 1 : Nat) d := by
  have h0 := h.c0
  have h1 := h.c1
  have h2 := h.f1
  obtain ⟨hi, hb⟩ := drop_get ht
  have tg : decide (i < s.size) = true := decide_eq_true hi
  have hi1 : (0 : Int) ≤ (i : Int) := by omega
  have hi2 : (i : Int) < (s.size : Int) := by omega
  generalize hx : s[i]'hi = b' at *
  subst hb
  have HR := Lib.hid h
  clear h ht
  go_enter Tryz.func117, Tryz.ntmps117
  go_wp2_with fail
  go_quiet (fail)
  go_wp2_with fail
  go_ret
  exact ⟨rfl, (Kp.of_below (below_drewN _ _ _)).set (Or.inl (by simp)) _, (HR.out.below (below_drewN w.heap.size w nq)).set1 ((i : Int) + 1)⟩
end Go.Proofs.YtpaehicfndkliaaGreatDoor.Pa
