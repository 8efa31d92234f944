/- The walks of the function that 'Read' hands to 'Catch'. Condition: the reader lies in memory. -/
import Derived.Test.YtfjblhalfgildaaDoorQq
import Derived.Test.YtfjblhalfgildaaDoorPw
namespace Go.Proofs.YtfjblhalfgildaaDoor.Pa
open Go.RowKit Go.Lib Na Go.PN

/-- The library's two errors can be read. -/
structure ErG (w : World) : Prop where
  s : ∃ ev, w.cell? ⟨1, 0, none⟩ = some ev ∧ (ev = .nilIface ∨ ∃ te pe, ev = .iface te pe)
  r : ∃ ev, w.cell? ⟨2, 0, none⟩ = some ev ∧ (ev = .nilIface ∨ ∃ te pe, ev = .iface te pe)
theorem ErG.below {w w' : World} (h : ErG w) (hb : Below w.heap.size w w') : ErG w' := by
  obtain ⟨⟨e1, h1, h2⟩, ⟨e2, h3, h4⟩⟩ := h
  exact ⟨⟨e1, (hb.cell (p := ⟨1, 0, none⟩) (cell_lt h1)).trans h1, h2⟩, ⟨e2, (hb.cell (p := ⟨2, 0, none⟩) (cell_lt h3)).trans h3, h4⟩⟩
theorem ErG.er {w w' : World} {R : Nat} (h : ErG w) (hb : Below w.heap.size w w') (hR : w.heap.size ≤ R) : Er w' R := by
  have h2 := h.below hb
  obtain ⟨⟨e1, h1, _⟩, ⟨e3, h3, _⟩⟩ := h
  have l1 := cell_lt h1
  have l3 := cell_lt h3
  exact ⟨h2.s, h2.r, by simp only at l1; omega, by simp only at l3; omega⟩
/-- What the reader has left behind. -/
structure Got (w w' : World) (R P Z : Nat) (X : List Nat) (s : ByteArray) (p : Fo) (u : List UInt8) (a : Nd) : Prop where
  fo : a.fo .nil = p
  bx : Bx w' Z (.int .i64 a.k) (.string a.l) (.slice a.A a.kids.len a.c) (.int .i64 a.mn) (.int .i64 a.mx)
  ok : a.ok w' (Z :: X)
  rs : RS w' R s (pos s u) 0
  pt : w'.cell? ⟨P, 0, none⟩ = some (.pointer (some ⟨R, 0, none⟩))
  kp : Kp [R, Z] w w'
set_option maxRecDepth 100000 in
set_option maxHeartbeats 8000000 in
theorem read1_left (R P Z : Nat) (s : ByteArray) (w : World) (hm : s.size ≤ 1000000) (h : RS w R s 0 0) (hE : Er w R) (hP : w.cell? ⟨P, 0, none⟩ = some (.pointer (some ⟨R, 0, none⟩))) (hx : altR NP 80 s.data.toList = none) :
    Calls Tryd.prog 31 #[.pointer (some ⟨P, 0, none⟩), .pointer (some ⟨Z, 0, none⟩)] w (Left R w) := by
  have hz : s.data.toList.length = s.size := by simp
  have h1 := alt_rd R s hm 80 (by omega) [R] s.data.toList w (by simp) (fun x hx => by simp at hx; rw [hx]; exact h.lt) (Sf.whole s) (by unfold pos; rw [hz, Nat.sub_self]; exact h) hE
  rw [hx] at h1
  have HA : Hid (Calls Tryd.prog 32 #[.pointer (some ⟨R, 0, none⟩)] w (Left R w)) := h1
  clear h1 hx hz h hE
  go_enter Tryd.func31, Tryd.ntmps31
  go_wp2_with (go_at_call 32; (with_reducible refine (HA.out).mono ?_); rintro e w' ⟨b, x, rfl, hl1, hl2, hl3, hl4⟩)
  exact ⟨rfl, b, x, rfl, hl1, hl2, hl3, hl4⟩
set_option maxRecDepth 100000 in
set_option maxHeartbeats 8000000 in
theorem read1_ok (R P Z : Nat) (s : ByteArray) (w : World) (hm : s.size ≤ 1000000) (h : RS w R s 0 0) (hE : Er w R) (hP : w.cell? ⟨P, 0, none⟩ = some (.pointer (some ⟨R, 0, none⟩))) (X : List Nat) (hX : R ∈ X) (hXs : ∀ x ∈ X, x < w.heap.size)
    {v0 v1 v2 v3 v4 : Value} (hZ : Bx w Z v0 v1 v2 v3 v4) (hPR : P ≠ R) (hZR : Z ≠ R) (hZP : Z ≠ P) {p : Fo} {u : List UInt8} (hx : altR NP 80 s.data.toList = some (p, u)) :
    Calls Tryd.prog 31 #[.pointer (some ⟨P, 0, none⟩), .pointer (some ⟨Z, 0, none⟩)] w fun e w' => e = .returned (.tuple #[]) ∧ ∃ a, Got w w' R P Z X s p u a := by
  have hz : s.data.toList.length = s.size := by simp
  have hPl := cell_lt hP
  have h1 := alt_rd R s hm 80 (by omega) (Z :: X) s.data.toList w (List.mem_cons_of_mem _ hX) (fun x hx => by
    rcases List.mem_cons.1 hx with rfl | hx
    · exact hZ.lt
    · exact hXs x hx) (Sf.whole s) (by unfold pos; rw [hz, Nat.sub_self]; exact h) hE
  rw [hx] at h1
  have HA : Hid (Calls Tryd.prog 32 #[.pointer (some ⟨R, 0, none⟩)] w fun e w' => ∃ a : Nd, e = .returned a.v ∧ a.fo .nil = p ∧ a.ok w' (Z :: X) ∧ Kp [R] w w' ∧ RS w' R s (pos s u) 0) := h1
  have HZ := Lib.hid hZ
  have HP := Lib.hid hP
  clear h1 hx hz h hE hZ
  go_enter Tryd.func31, Tryd.ntmps31
  go_wp2_with (go_at_call 32; (with_reducible refine (HA.out).mono ?_); rintro e w2 ⟨⟨k, l, A, c, mn, mx, kids⟩, rfl, hfo, hok, hk, hr⟩; have HF := Lib.hid hfo; have HO := Lib.hid hok; have HK := Lib.hid hk; have HR := Lib.hid hr; have HB := Lib.hid (HZ.out.kp hk (by simpa using hZR)); have HP2 := Lib.hid ((hk.cell (p := ⟨P, 0, none⟩) hPl (by simpa using hPR)).trans HP.out); clear hfo hok hk hr hP; have z0 := HB.out.c0; have z1 := HB.out.c1; have z2 := HB.out.c2; have z3 := HB.out.c3; have z4 := HB.out.c4; have y0 := HB.out.f0; have y1 := HB.out.f1; have y2 := HB.out.f2; have y3 := HB.out.f3; have y4 := HB.out.f4)
  go_end0
  refine ⟨rfl, ⟨k, l, A, c, mn, mx, kids⟩, HF.out, HB.out.w5, HO.out.w5 (by simp), HR.out.w5 hZR, ?_, (show Kp [R, Z] w w2 from ⟨HK.out.os, HK.out.tape, HK.out.output, HK.out.size, fun k h1 h2 => HK.out.block k h1 (by simp at h2 ⊢; exact h2.1)⟩).w5 (Or.inl (by simp))⟩
  have := HP2.out
  have hPZ : P ≠ Z := fun e => hZP e.symm
  have e : ∀ (w : World) (j : Nat) (v : Value), (w.setCell ⟨Z, j, none⟩ v).cell? ⟨P, 0, none⟩ = w.cell? ⟨P, 0, none⟩ := fun w j v => World.cell?_of_block (w := w) (Below.heap_setCell _ _ _ _ hPZ)
  rw [e, e, e, e, e]
  exact this
end Go.Proofs.YtfjblhalfgildaaDoor.Pa
