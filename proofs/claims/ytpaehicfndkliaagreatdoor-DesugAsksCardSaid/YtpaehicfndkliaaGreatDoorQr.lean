import Derived.Test.YtpaehicfndkliaaGreatDoorQo
import Derived.Defers
import Derived.Recover
import Derived.RegionTactic
import Derived.Test.YtpaehicfndkliaaGreatDoorPw

/- The walks of bail's 'call', 'Catch'. Condition: what the function does is known. -/
namespace Go.Proofs.YtpaehicfndkliaaGreatDoor.Pa
open Go.RowKit Go.Lib Na Go.PN

set_option maxRecDepth 100000 in
set_option maxHeartbeats 4000000 in
theorem catch_idle (C D : Nat) (w : World) :
    CallsD Tryz.prog 69 #[.pointer (some ⟨C, 0, none⟩), .pointer (some ⟨D, 0, none⟩)] .returning w fun e u' w' => e = .returned (.tuple #[]) ∧ u' = .returning ∧ w' = w := by
  refine callsD_of_wpS Tryz.func69 rfl fun c₀ cs hu => ?_
  apply wpS_seq
  apply wpS_region
  simp [wpOpsS, go_sem, recoverD, hu, Tryz.ntmps69, Exit.thenS]
  refine wpS_of_wp ?_
  have HU := Lib.hid hu
  clear hu
  rw [show (#[Value.pointer (some ⟨C, 0, none⟩), Value.pointer (some ⟨D, 0, none⟩)] ++ (Array.replicate 21 undef).setIfInBounds 3 Value.nilIface) = #[.pointer (some ⟨C, 0, none⟩), .pointer (some ⟨D, 0, none⟩), undef, undef, undef, .nilIface, undef, undef, undef, undef, undef, undef, undef, undef, undef, undef, undef, undef, undef, undef, undef, undef, undef] from by simp [Array.replicate, List.replicate]]
  refine Go.wp_mono (Q := fun e a' w' => (e = .normal ∨ e = .ret) ∧ a'.defers = [] ∧ w' = w) ?_ ?_
  · clear HU
    go_wp2
  · intro e a' w' ⟨he, hd, hw⟩
    have hu := HU.out
    cases c₀
    rcases he with rfl | rfl <;> simp_all [bodyPostS, results, Tryz.results69]
set_option maxRecDepth 100000 in
set_option maxHeartbeats 4000000 in
theorem catch_panicking (C D b : Nat) (x y c d : Int) (w : World) (hC : w.cell? ⟨C, 0, none⟩ = some (.int .i64 c)) (hD : w.cell? ⟨D, 0, none⟩ = some (.int .i64 d)) (fC : w.frozen? ⟨C, 0, none⟩ = false) (fD : w.frozen? ⟨D, 0, none⟩ = false) (hCD : C ≠ D) (hDC : D ≠ C)
    (h0 : w.cell? ⟨b, 0, none⟩ = some (.int .i64 x)) (h1 : w.cell? ⟨b, 1, none⟩ = some (.int .i64 y)) (hbC : b ≠ C) (hbD : b ≠ D) (hCb : C ≠ b) (hDb : D ≠ b) :
    CallsD Tryz.prog 69 #[.pointer (some ⟨C, 0, none⟩), .pointer (some ⟨D, 0, none⟩)] (.panicking ({ v := .iface 66 (.pointer (some ⟨b, 0, none⟩)), recovered := false } :: [])) w fun e u' w' => e = .returned (.tuple #[]) ∧ u' = .panicking ({ v := .iface 66 (.pointer (some ⟨b, 0, none⟩)), recovered := true } :: []) ∧ w'.cell? ⟨C, 0, none⟩ = some (.int .i64 x) ∧ w'.cell? ⟨D, 0, none⟩ = some (.int .i64 y) ∧ Kp [C, D] w w' := by
  refine callsD_of_wpS Tryz.func69 rfl fun c₀ cs hu => ?_
  apply wpS_seq
  apply wpS_region
  simp [wpOpsS, go_sem, recoverD, hu, Tryz.ntmps69, Exit.thenS]
  refine wpS_of_wp ?_
  have HU := Lib.hid hu
  clear hu
  rw [show (#[Value.pointer (some ⟨C, 0, none⟩), Value.pointer (some ⟨D, 0, none⟩)] ++ (Array.replicate 21 undef).setIfInBounds 3 (.iface 66 (.pointer (some ⟨b, 0, none⟩)))) = #[.pointer (some ⟨C, 0, none⟩), .pointer (some ⟨D, 0, none⟩), undef, undef, undef, .iface 66 (.pointer (some ⟨b, 0, none⟩)), undef, undef, undef, undef, undef, undef, undef, undef, undef, undef, undef, undef, undef, undef, undef, undef, undef] from by simp [Array.replicate, List.replicate]]
  refine Go.wp_mono (Q := fun e a' w' => (e = .normal ∨ e = .ret) ∧ a'.defers = [] ∧ w'.cell? ⟨C, 0, none⟩ = some (.int .i64 x) ∧ w'.cell? ⟨D, 0, none⟩ = some (.int .i64 y) ∧ Kp [C, D] w w') ?_ ?_
  · clear HU
    have hta : ∀ w : World, (Instr.typeAssert (.iface 66 (.pointer (some ⟨b, 0, none⟩))) 20 66 true).run Tryz.prog w = .ok (.tuple #[.pointer (some ⟨b, 0, none⟩), .bool true]) w := fun w => by
      kernel_rfl
    go_wp2
    go_region
    all_goals
      exact ⟨Or.inl rfl, rfl, by go_simp, by go_simp, (((Kp.refl _ _).set (p := ⟨C, 0, none⟩) (Or.inl (by simp)) _).set (p := ⟨D, 0, none⟩) (Or.inl (by simp)) _).drew⟩
  · intro e a' w' ⟨he, hd, hw⟩
    have hu := HU.out
    cases c₀
    rcases he with rfl | rfl <;> simp_all [bodyPostS, results, Tryz.results69]
set_option maxRecDepth 100000 in
theorem call_ok (a z : Nat) (w : World) (Q : World → Prop) (H : Calls Tryz.prog 87 #[.pointer (some ⟨a, 0, none⟩), .pointer (some ⟨z, 0, none⟩)] w fun e w' => e = .returned (.tuple #[]) ∧ Q w') :
    Calls Tryz.prog 70 #[.func (.func 87) #[] #[.pointer (some ⟨a, 0, none⟩), .pointer (some ⟨z, 0, none⟩)]] w fun e w' => e = .returned (.tuple #[]) ∧ Q w' := by
  have HH := Lib.hid H
  clear H
  have hnf : ∀ (fn : Fn) (first cap : Array Value) (w : World), (binOp .neq 1 (.func fn first cap) .nilFunc).run Tryz.prog w = .ok (.bool true) w := fun _ _ _ _ => rfl
  go_enter Tryz.func70, Tryz.ntmps70
  go_wp2_with (go_at_call 87; (with_reducible refine (HH.out).mono ?_); rintro e w' ⟨rfl, hq⟩)
  first | go_end0 | skip
  exact ⟨rfl, hq⟩
set_option maxRecDepth 100000 in
theorem call_left (a z R : Nat) (w : World) (H : Calls Tryz.prog 87 #[.pointer (some ⟨a, 0, none⟩), .pointer (some ⟨z, 0, none⟩)] w (Left R w)) :
    Calls Tryz.prog 70 #[.func (.func 87) #[] #[.pointer (some ⟨a, 0, none⟩), .pointer (some ⟨z, 0, none⟩)]] w (Left R w) := by
  have HH := Lib.hid H
  clear H
  have hnf : ∀ (fn : Fn) (first cap : Array Value) (w : World), (binOp .neq 1 (.func fn first cap) .nilFunc).run Tryz.prog w = .ok (.bool true) w := fun _ _ _ _ => rfl
  go_enter Tryz.func70, Tryz.ntmps70
  go_wp2_with (go_at_call 87; (with_reducible refine (HH.out).mono ?_); rintro e w' ⟨b, x, rfl, hl1, hl2, hl3, hl4⟩)
  exact ⟨rfl, ⟨b, x, rfl, hl1, hl2, hl3, hl4⟩⟩
end Go.Proofs.YtpaehicfndkliaaGreatDoor.Pa


/- The walk of bail's 'Catch', of the function that 'Read' hands it. Condition: what the function does is known. -/
namespace Go.Proofs.YtpaehicfndkliaaGreatDoor.Pa
open Go.RowKit Go.Lib Na Go.PN

abbrev catW (w : World) : World := (w.alloc (.cells #[.int .i64 0] 29)).alloc (.cells #[.int .i64 0] 3)
theorem catW_cells (w : World) : (catW w).cell? ⟨w.heap.size, 0, none⟩ = some (.int .i64 0) ∧ (catW w).cell? ⟨w.heap.size + 1, 0, none⟩ = some (.int .i64 0) ∧ (catW w).frozen? ⟨w.heap.size, 0, none⟩ = false ∧ (catW w).frozen? ⟨w.heap.size + 1, 0, none⟩ = false := by
  refine ⟨?_, ?_, ?_, ?_⟩ <;> go_simp
theorem catW_size (w : World) : (catW w).heap.size = w.heap.size + 2 := by simp
set_option maxRecDepth 100000 in
set_option maxHeartbeats 8000000 in
theorem catch_ok (a z R : Nat) (w : World) (Q : World → Prop) (hR : R < w.heap.size)
    (H : Calls Tryz.prog 87 #[.pointer (some ⟨a, 0, none⟩), .pointer (some ⟨z, 0, none⟩)] (catW w) fun e w' => e = .returned (.tuple #[]) ∧ Q w' ∧ (w'.cell? ⟨w.heap.size, 0, none⟩ = some (.int .i64 0) ∧ w'.cell? ⟨w.heap.size + 1, 0, none⟩ = some (.int .i64 0) ∧ w'.frozen? ⟨w.heap.size, 0, none⟩ = false ∧ w'.frozen? ⟨w.heap.size + 1, 0, none⟩ = false)) :
    Calls Tryz.prog 35 #[.func (.func 87) #[] #[.pointer (some ⟨a, 0, none⟩), .pointer (some ⟨z, 0, none⟩)]] w fun e w' => e = .returned (.tuple #[.int .i64 0, .int .i64 0]) ∧ ∃ w2, Q w2 ∧ w' = (w2.setCell ⟨w.heap.size, 0, none⟩ (.int .i64 0)).setCell ⟨w.heap.size + 1, 0, none⟩ (.int .i64 0) := by
  have hmf : ∀ (fn : Fn) (first cap : Array Value) (w : World), (Instr.makeFunc fn first cap).run Tryz.prog w = .ok (.func fn first cap) w := fun _ _ _ _ => rfl
  have HH := Lib.hid (call_ok a z (catW w) _ H)
  clear H
  go_enter_defers Tryz.func35, Tryz.ntmps35
  go_wp2_with (go_at_call 70; (with_reducible refine (HH.out).mono ?_); rintro e w2 ⟨rfl, hq, c0, c1, f0, f1⟩)
  refine leaves_cons (f := 69) (args := #[.pointer (some ⟨w.heap.size, 0, none⟩), .pointer (some ⟨w.heap.size + 1, 0, none⟩)]) (by simp) (by simp [go_sem]) ?_
  refine (catch_idle w.heap.size (w.heap.size + 1) _).mono ?_
  rintro e u' w'' ⟨rfl, rfl, rfl⟩
  simp [Leaves, settle, results, Tryz.results35, go_sem, c0, c1]
  exact ⟨w2, hq, rfl⟩
set_option maxRecDepth 100000 in
set_option maxHeartbeats 8000000 in
theorem catch_left (a z R : Nat) (w : World) (hR : R < w.heap.size)
    (H : Calls Tryz.prog 87 #[.pointer (some ⟨a, 0, none⟩), .pointer (some ⟨z, 0, none⟩)] (catW w) (Left R (catW w))) :
    Calls Tryz.prog 35 #[.func (.func 87) #[] #[.pointer (some ⟨a, 0, none⟩), .pointer (some ⟨z, 0, none⟩)]] w fun e w' => ∃ x : Int, e = .returned (.tuple #[.int .i64 3, .int .i64 x]) ∧ Kp [R] w w' := by
  have hmf : ∀ (fn : Fn) (first cap : Array Value) (w : World), (Instr.makeFunc fn first cap).run Tryz.prog w = .ok (.func fn first cap) w := fun _ _ _ _ => rfl
  have HH := Lib.hid (call_left a z R (catW w) H)
  clear H
  go_enter_defers Tryz.func35, Tryz.ntmps35
  go_wp2_with (go_at_call 70; (with_reducible refine (HH.out).mono ?_); rintro e w2 ⟨b, x, rfl, hl1, hl2, hl3, hl4⟩)
  obtain ⟨c0, c1, f0, f1⟩ := catW_cells w
  have hz := catW_size w
  rw [hz] at hl3
  have d0 := (hl4.cell (p := ⟨w.heap.size, 0, none⟩) (by rw [hz]; show w.heap.size < _; omega) (by simp; omega)).trans c0
  have d1 := (hl4.cell (p := ⟨w.heap.size + 1, 0, none⟩) (by rw [hz]; show w.heap.size + 1 < _; omega) (by simp; omega)).trans c1
  have g0 := (hl4.frozen (p := ⟨w.heap.size, 0, none⟩) (by rw [hz]; show w.heap.size < _; omega) (by simp; omega)).trans f0
  have g1 := (hl4.frozen (p := ⟨w.heap.size + 1, 0, none⟩) (by rw [hz]; show w.heap.size + 1 < _; omega) (by simp; omega)).trans f1
  refine leaves_cons (f := 69) (args := #[.pointer (some ⟨w.heap.size, 0, none⟩), .pointer (some ⟨w.heap.size + 1, 0, none⟩)]) (by simp) (by simp [go_sem]) ?_
  refine (catch_panicking w.heap.size (w.heap.size + 1) b 3 x 0 0 _ d0 d1 g0 g1 (by omega) (by omega) hl1 hl2 (by omega) (by omega) (by omega) (by omega)).mono ?_
  rintro e u' w'' ⟨rfl, rfl, k0, k1, hk⟩
  simp [Leaves, settle, results, Tryz.results35, go_sem, k0, k1]
  have h1 : Kp [R] w w2 := (show Kp [R] w (catW w) from ((Kp.refl _ _).alloc _).alloc _).trans hl4
  exact ⟨hk.os.trans h1.os, hk.tape.trans h1.tape, hk.output.trans h1.output, Nat.le_trans h1.size hk.size, fun k hk2 hx => (hk.block k (Nat.lt_of_lt_of_le hk2 h1.size) (by simp; omega)).trans (h1.block k hk2 hx)⟩
end Go.Proofs.YtpaehicfndkliaaGreatDoor.Pa


/- The walks of the function that 'Read' hands to 'Catch'. Condition: the reader lies in memory. -/
namespace Go.Proofs.YtpaehicfndkliaaGreatDoor.Pa
open Go.RowKit Go.Lib Na Go.PN

/-- The library's two errors can be read. -/
structure ErG (w : World) : Prop where
  s : ∃ ev, w.cell? ⟨1, 0, none⟩ = some ev ∧ (ev = .nilIface ∨ ∃ te pe, ev = .iface te pe)
  r : ∃ ev, w.cell? ⟨2, 0, none⟩ = some ev ∧ (ev = .nilIface ∨ ∃ te pe, ev = .iface te pe)
theorem ErG.below {w w' : World} (h : ErG w) (hb : Below w.heap.size w w') : ErG w' := by
  obtain ⟨⟨e1, h1, h2⟩, ⟨e2, h3, h4⟩⟩ := h
  exact ⟨⟨e1, (hb.cell (p := ⟨1, 0, none⟩) (cell_lt h1)).trans h1, h2⟩, ⟨e2, (hb.cell (p := ⟨2, 0, none⟩) (cell_lt h3)).trans h3, h4⟩⟩
theorem ErG.er {w w' : World} {R : Nat} (h : ErG w) (hb : Below w.heap.size w w') (hR : w.heap.size ≤ R) : Er w' R := by
  have h2 := h.below hb
  obtain ⟨⟨e1, h1, _⟩, ⟨e3, h3, _⟩⟩ := h
  have l1 := cell_lt h1
  have l3 := cell_lt h3
  exact ⟨h2.s, h2.r, by simp only at l1; omega, by simp only at l3; omega⟩
/-- What the reader has left behind. -/
structure Got (w w' : World) (R P Z : Nat) (X : List Nat) (s : ByteArray) (p : Fo) (u : List UInt8) (a : Nd) : Prop where
  fo : a.fo .nil = p
  bx : Bx w' Z (.int .i64 a.k) (.string a.l) (.slice a.A a.kids.len a.c) (.int .i64 a.mn) (.int .i64 a.mx)
  ok : a.ok w' (Z :: X)
  rs : RS w' R s (pos s u) 0
  pt : w'.cell? ⟨P, 0, none⟩ = some (.pointer (some ⟨R, 0, none⟩))
  kp : Kp [R, Z] w w'
set_option maxRecDepth 100000 in
set_option maxHeartbeats 8000000 in
theorem read1_left (R P Z : Nat) (s : ByteArray) (w : World) (hm : s.size ≤ 1000000) (h : RS w R s 0 0) (hE : Er w R) (hP : w.cell? ⟨P, 0, none⟩ = some (.pointer (some ⟨R, 0, none⟩))) (hx : altR NP 80 s.data.toList = none) :
    Calls Tryz.prog 87 #[.pointer (some ⟨P, 0, none⟩), .pointer (some ⟨Z, 0, none⟩)] w (Left R w) := by
  have hz : s.data.toList.length = s.size := by simp
  have h1 := alt_rd R s hm 80 (by omega) [R] s.data.toList w (by simp) (fun x hx => by simp at hx; rw [hx]; exact h.lt) (Sf.whole s) (by unfold pos; rw [hz, Nat.sub_self]; exact h) hE
  rw [hx] at h1
  have HA : Hid (Calls Tryz.prog 88 #[.pointer (some ⟨R, 0, none⟩)] w (Left R w)) := h1
  clear h1 hx hz h hE
  go_enter Tryz.func87, Tryz.ntmps87
  go_wp2_with (go_at_call 88; (with_reducible refine (HA.out).mono ?_); rintro e w' ⟨b, x, rfl, hl1, hl2, hl3, hl4⟩)
  exact ⟨rfl, b, x, rfl, hl1, hl2, hl3, hl4⟩
set_option maxRecDepth 100000 in
set_option maxHeartbeats 8000000 in
theorem read1_ok (R P Z : Nat) (s : ByteArray) (w : World) (hm : s.size ≤ 1000000) (h : RS w R s 0 0) (hE : Er w R) (hP : w.cell? ⟨P, 0, none⟩ = some (.pointer (some ⟨R, 0, none⟩))) (X : List Nat) (hX : R ∈ X) (hXs : ∀ x ∈ X, x < w.heap.size)
    {v0 v1 v2 v3 v4 : Value} (hZ : Bx w Z v0 v1 v2 v3 v4) (hPR : P ≠ R) (hZR : Z ≠ R) (hZP : Z ≠ P) {p : Fo} {u : List UInt8} (hx : altR NP 80 s.data.toList = some (p, u)) :
    Calls Tryz.prog 87 #[.pointer (some ⟨P, 0, none⟩), .pointer (some ⟨Z, 0, none⟩)] w fun e w' => e = .returned (.tuple #[]) ∧ ∃ a, Got w w' R P Z X s p u a := by
  have hz : s.data.toList.length = s.size := by simp
  have hPl := cell_lt hP
  have h1 := alt_rd R s hm 80 (by omega) (Z :: X) s.data.toList w (List.mem_cons_of_mem _ hX) (fun x hx => by
    rcases List.mem_cons.1 hx with rfl | hx
    · exact hZ.lt
    · exact hXs x hx) (Sf.whole s) (by unfold pos; rw [hz, Nat.sub_self]; exact h) hE
  rw [hx] at h1
  have HA : Hid (Calls Tryz.prog 88 #[.pointer (some ⟨R, 0, none⟩)] w fun e w' => ∃ a : Nd, e = .returned a.v ∧ a.fo .nil = p ∧ a.ok w' (Z :: X) ∧ Kp [R] w w' ∧ RS w' R s (pos s u) 0) := h1
  have HZ := Lib.hid hZ
  have HP := Lib.hid hP
  clear h1 hx hz h hE hZ
  go_enter Tryz.func87, Tryz.ntmps87
  go_wp2_with (go_at_call 88; (with_reducible refine (HA.out).mono ?_); rintro e w2 ⟨⟨k, l, A, c, mn, mx, kids⟩, rfl, hfo, hok, hk, hr⟩; have HF := Lib.hid hfo; have HO := Lib.hid hok; have HK := Lib.hid hk; have HR := Lib.hid hr; have HB := Lib.hid (HZ.out.kp hk (by simpa using hZR)); have HP2 := Lib.hid ((hk.cell (p := ⟨P, 0, none⟩) hPl (by simpa using hPR)).trans HP.out); clear hfo hok hk hr hP; have z0 := HB.out.c0; have z1 := HB.out.c1; have z2 := HB.out.c2; have z3 := HB.out.c3; have z4 := HB.out.c4; have y0 := HB.out.f0; have y1 := HB.out.f1; have y2 := HB.out.f2; have y3 := HB.out.f3; have y4 := HB.out.f4)
  go_end0
  refine ⟨rfl, ⟨k, l, A, c, mn, mx, kids⟩, HF.out, HB.out.w5, HO.out.w5 (by simp), HR.out.w5 hZR, ?_, (show Kp [R, Z] w w2 from ⟨HK.out.os, HK.out.tape, HK.out.output, HK.out.size, fun k h1 h2 => HK.out.block k h1 (by simp at h2 ⊢; exact h2.1)⟩).w5 (Or.inl (by simp))⟩
  have := HP2.out
  have hPZ : P ≠ Z := fun e => hZP e.symm
  have e : ∀ (w : World) (j : Nat) (v : Value), (w.setCell ⟨Z, j, none⟩ v).cell? ⟨P, 0, none⟩ = w.cell? ⟨P, 0, none⟩ := fun w j v => World.cell?_of_block (w := w) (Below.heap_setCell _ _ _ _ hPZ)
  rw [e, e, e, e, e]
  exact this
end Go.Proofs.YtpaehicfndkliaaGreatDoor.Pa
