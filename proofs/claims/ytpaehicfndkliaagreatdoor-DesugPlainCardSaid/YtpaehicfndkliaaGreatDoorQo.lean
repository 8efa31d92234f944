/- The walk of the reader's 'alt'. Condition: the reader lies in memory. -/
import Derived.Test.YtpaehicfndkliaaGreatDoorQn
namespace Go.Proofs.YtpaehicfndkliaaGreatDoor.Pa
open Go.RowKit Go.Lib Na Go.PN

abbrev altW (w : World) (R : Nat) (d : Int) : World := ((w.setCell ⟨R, 2, none⟩ (.int .i64 d)).alloc (.cells #[.pointer (some ⟨R, 0, none⟩)] 84)).alloc zero5
set_option maxRecDepth 100000 in
set_option maxHeartbeats 8000000 in
theorem alt_top (R : Nat) (s : ByteArray) : Rds 88 R s 80 (altR NP 0) := by
  intro X t w hX hXs ht h hE
  have hRlt := h.lt
  have q0 := h.c2
  have q1 := h.f2
  have HR2 := Lib.hid (show RS (altW w R 81) R s (pos s t) 81 from ((h.set2 81).al _).al _)
  have HK2 := Lib.hid (show Kp [R] w (altW w R 81) from (((Kp.refl [R] w).set (p := ⟨R, 2, none⟩) (Or.inl (by simp)) (.int .i64 81)).alloc _).alloc _)
  have q2 := HR2.out.c2
  have HB := Lib.hid (bad_any R s _ 81 _ HR2.out)
  rw [rdp_none (by rfl)]
  clear h hE hX hXs
  go_enter Tryz.func88, Tryz.ntmps88
  go_wp2_with (go_at_call 106; (with_reducible refine (HB.out).mono ?_); rintro e w' ⟨b, x, rfl, hl1, hl2, hl3, hl4⟩)
  exact ⟨rfl, Left.after HK2.out ⟨b, x, rfl, hl1, hl2, hl3, hl4⟩⟩
set_option maxRecDepth 100000 in
set_option maxHeartbeats 8000000 in
theorem alt_step (R : Nat) (s : ByteArray) (d : Int) (n : Nat) (h0 : 0 ≤ d) (h80 : d < 80) (hm : s.size ≤ 1000000) (IH : Rds 88 R s (d + 1) (altR NP n)) : Rds 88 R s d (altR NP (n + 1)) := by
  have hmf : ∀ (fn : Fn) (first cap : Array Value) (w : World), (Instr.makeFunc fn first cap).run Tryz.prog w = .ok (.func fn first cap) w := fun _ _ _ _ => rfl
  intro X t w hX hXs ht h hE
  have hRlt := h.lt
  have HX := Lib.hid hX
  have HXS := Lib.hid hXs
  have HR2 := Lib.hid (show RS (altW w R (d + 1)) R s (pos s t) (d + 1) from ((h.set2 (d + 1)).al _).al _)
  have hk2 : Kp [R] w (altW w R (d + 1)) := (((Kp.refl [R] w).set (p := ⟨R, 2, none⟩) (Or.inl (by simp)) (.int .i64 (d + 1))).alloc _).alloc _
  have HK2 := Lib.hid hk2
  have HE2 := Lib.hid (hE.keep hk2)
  have q2 := HR2.out.c2
  have q0 := h.c2
  have q1 := h.f2
  have hneB : w.heap.size ∉ [R] := by simp; omega
  have hneZ : w.heap.size + 1 ∉ [R] := by simp; omega
  have hz0 : ((w.setCell ⟨R, 2, none⟩ (.int .i64 (d + 1))).alloc (.cells #[.pointer (some ⟨R, 0, none⟩)] 84)).heap.size = w.heap.size + 1 := by simp
  have HZ2 := Lib.hid (show Bx (altW w R (d + 1)) (w.heap.size + 1) (.int .i64 0) (.string ⟨#[]⟩) (.slice none 0 0) (.int .i64 0) (.int .i64 0) from by
    have := Bx.new ((w.setCell ⟨R, 2, none⟩ (.int .i64 (d + 1))).alloc (.cells #[.pointer (some ⟨R, 0, none⟩)] 84)) (.int .i64 0) (.string ⟨#[]⟩) (.slice none 0 0) (.int .i64 0) (.int .i64 0) 24
    rwa [hz0] at this)
  have hb2 : (altW w R (d + 1)).cell? ⟨w.heap.size, 0, none⟩ = some (.pointer (some ⟨R, 0, none⟩)) := by
    have hh : R ≠ w.heap.size := by omega
    go_simp
  have HBP := Lib.hid hb2
  have hbl := cell_lt hb2
  have HC := Lib.hid (row_alt R s (d + 1) (rowR 4 47 (postR NP (atomR (altR NP n)))) w.heap.size hm ((w.heap.size + 1) :: X) t (altW w R (d + 1)) (List.mem_cons_of_mem _ hX) (fun x hx => by
    rcases List.mem_cons.1 hx with rfl | hx
    · exact HZ2.out.lt
    · exact Nat.lt_of_lt_of_le (hXs x hx) hk2.size) ht HR2.out HE2.out
    (fun X t w1 a1 a2 a3 a4 a5 a6 => seq_rd R w.heap.size s (d + 1) (postR NP (atomR (altR NP n))) hm (post_rd R s (d + 1) (atomR (altR NP n)) hm (atom_rd R s (d + 1) (altR NP n) hm IH (alt_both n).1) (alt_both n).1.atom) (alt_both n).1.atom.post X t w1 a1 a2 a3 a4 a5
      ((a6.cell (p := ⟨w.heap.size, 0, none⟩) hbl hneB).trans HBP.out)) (row_both (alt_both n).1.atom.post (alt_both n).2.atom.post).1)
  have t80 : decide (d + 1 > 80) = false := decide_eq_false (by omega)
  clear h hE hX hXs hk2 hz0
  rcases hx : altR NP (n + 1) t with _ | ⟨p, u⟩
  · rw [rdp_none (by rfl)]
    rw [show rowR 5 124 (rowR 4 47 (postR NP (atomR (altR NP n)))) t = none from hx] at HC
    have HC2 : Hid (Calls Tryz.prog 107 #[.pointer (some ⟨R, 0, none⟩), .int .i64 5, .int .u8 124, .func (.func 108) #[] #[.pointer (some ⟨w.heap.size, 0, none⟩)]] (altW w R (d + 1)) (Left R (altW w R (d + 1)))) := HC.out
    clear hx HC
    go_enter Tryz.func88, Tryz.ntmps88
    go_wp2_with (go_at_call 107; (with_reducible refine (HC2.out).mono ?_); rintro e w' ⟨b, x, rfl, hl1, hl2, hl3, hl4⟩)
    exact ⟨rfl, Left.after HK2.out ⟨b, x, rfl, hl1, hl2, hl3, hl4⟩⟩
  · rw [rdp_some (by rfl)]
    rw [show rowR 5 124 (rowR 4 47 (postR NP (atomR (altR NP n)))) t = some (p, u) from hx] at HC
    have HC2 : Hid (Calls Tryz.prog 107 #[.pointer (some ⟨R, 0, none⟩), .int .i64 5, .int .u8 124, .func (.func 108) #[] #[.pointer (some ⟨w.heap.size, 0, none⟩)]] (altW w R (d + 1)) fun e w' => ∃ a : Nd, e = .returned a.v ∧ a.fo .nil = p ∧ a.ok w' ((w.heap.size + 1) :: X) ∧ Kp [R] (altW w R (d + 1)) w' ∧ RS w' R s (pos s u) (d + 1)) := HC.out
    clear hx HC
    go_enter Tryz.func88, Tryz.ntmps88
    go_wp2_with (go_at_call 107; (with_reducible refine (HC2.out).mono ?_); rintro e w3 ⟨⟨k, l, A, c, mn, mx, kids⟩, rfl, hp, hok, hk3, hr3⟩; clear q0 q1 q2; have HP := Lib.hid hp; have hw3 : R < w3.heap.size := hr3.lt; have hwz : w.heap.size + 1 < w3.heap.size := Nat.lt_of_lt_of_le HZ2.out.lt hk3.size; have HOK := Lib.hid (((hok.set (p := ⟨R, 2, none⟩) (List.mem_cons_of_mem _ HX.out) (.int .i64 d)).w5 (b := w.heap.size + 1) (v0 := .int .i64 k) (v1 := .string l) (v2 := .slice A kids.len c) (v3 := .int .i64 mn) (v4 := .int .i64 mx) (by simp)).al (cells5 k l A kids.len c mn mx)); have HK3 := Lib.hid ((((HK2.out.trans hk3).set (p := ⟨R, 2, none⟩) (Or.inl (by simp)) (.int .i64 d)).w5 (b := w.heap.size + 1) (v0 := .int .i64 k) (v1 := .string l) (v2 := .slice A kids.len c) (v3 := .int .i64 mn) (v4 := .int .i64 mx) (Or.inr (by omega))).alloc (cells5 k l A kids.len c mn mx)); have HR3 := Lib.hid (((hr3.set2 d).w5 (b := w.heap.size + 1) (v0 := .int .i64 k) (v1 := .string l) (v2 := .slice A kids.len c) (v3 := .int .i64 mn) (v4 := .int .i64 mx) (by omega)).al (cells5 k l A kids.len c mn mx)); have q3 := hr3.c2; have q4 := hr3.f2; have q5 := (hr3.al (cells5 k l A kids.len c mn mx)).c2; have q6 := (hr3.al (cells5 k l A kids.len c mn mx)).f2; have HZ3 := Lib.hid (((HZ2.out.kp hk3 hneZ).far (p := ⟨R, 2, none⟩) (by show R ≠ _; omega) (.int .i64 d)).al (cells5 k l A kids.len c mn mx)); have hb3 := (hk3.cell (p := ⟨w.heap.size, 0, none⟩) hbl hneB).trans HBP.out; have hb4 := (((Below.refl _ w3).alloc (Nat.le_refl _) (cells5 k l A kids.len c mn mx)).cell (p := ⟨w.heap.size, 0, none⟩) (show w.heap.size < w3.heap.size from by omega)).trans hb3; have HZw := HZ2.out.kp hk3 hneZ; have u0 := HZw.c0; have v0 := HZw.f0; have u1 := HZw.c1; have v1 := HZw.f1; have u2 := HZw.c2; have v2 := HZw.f2; have u3 := HZw.c3; have v3 := HZw.f3; have u4 := HZw.c4; have v4 := HZw.f4; have m0 := (HZw.al (cells5 k l A kids.len c mn mx)).c0; have n0 := (HZw.al (cells5 k l A kids.len c mn mx)).f0; have m1 := (HZw.al (cells5 k l A kids.len c mn mx)).c1; have n1 := (HZw.al (cells5 k l A kids.len c mn mx)).f1; have m2 := (HZw.al (cells5 k l A kids.len c mn mx)).c2; have n2 := (HZw.al (cells5 k l A kids.len c mn mx)).f2; have m3 := (HZw.al (cells5 k l A kids.len c mn mx)).c3; have n3 := (HZw.al (cells5 k l A kids.len c mn mx)).f3; have m4 := (HZw.al (cells5 k l A kids.len c mn mx)).c4; have n4 := (HZw.al (cells5 k l A kids.len c mn mx)).f4; have HZF := Lib.hid (((HZw.far (p := ⟨R, 2, none⟩) (by show R ≠ _; omega) (.int .i64 d)).w5 (v0 := .int .i64 k) (v1 := .string l) (v2 := .slice A kids.len c) (v3 := .int .i64 mn) (v4 := .int .i64 mx)).al (cells5 k l A kids.len c mn mx)); clear hp hok hk3 hr3 HZw; have hrz : R ≠ w.heap.size + 1 := (by omega); have z0 := HZ3.out.c0; have z1 := HZ3.out.c1; have z2 := HZ3.out.c2; have z3 := HZ3.out.c3; have z4 := HZ3.out.c4; have y0 := HZ3.out.f0; have y1 := HZ3.out.f1; have y2 := HZ3.out.f2; have y3 := HZ3.out.f3; have y4 := HZ3.out.f4)
    exact bodyPost_ret (v := .agg #[.int .i64 k, .string l, .slice A kids.len c, .int .i64 mn, .int .i64 mx]) (by simp [results, Tryz.results88, go_sem, HZF.out.c0, HZF.out.c1, HZF.out.c2, HZF.out.c3, HZF.out.c4]) rfl ⟨⟨k, l, A, c, mn, mx, kids⟩, rfl, HP.out, HOK.out.less (by intro y hy; simp [hy]), HK3.out, HR3.out⟩
/-- The reader of paths, from outside. -/
theorem alt_rd (R : Nat) (s : ByteArray) (hm : s.size ≤ 1000000) (n : Nat) (h : n ≤ 80) : Rds 88 R s (80 - n) (altR NP n) := by
  induction n with
  | zero => exact alt_top R s
  | succ n ih =>
    have h1 := alt_step R s (80 - (n + 1 : Nat)) n (by omega) (by omega) hm (by
      have h2 := ih (by omega)
      rwa [show (80 : Int) - (n : Int) = 80 - ((n + 1 : Nat) : Int) + 1 from by omega] at h2)
    exact h1
end Go.Proofs.YtpaehicfndkliaaGreatDoor.Pa
