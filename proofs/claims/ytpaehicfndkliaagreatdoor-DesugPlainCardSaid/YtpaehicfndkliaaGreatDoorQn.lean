/- The walk of the reader's 'alt'. Condition: the reader lies in memory. -/
import Derived.Test.YtpaehicfndkliaaGreatDoorQm
namespace Go.Proofs.YtpaehicfndkliaaGreatDoor.Pa
open Go.RowKit Go.Lib Na Go.PN

set_option maxRecDepth 100000 in
set_option maxHeartbeats 8000000 in
/-- The function value within 'alt'. -/
theorem seq_rd (R B : Nat) (s : ByteArray) (d : Int) (one : Rd) (hm : s.size ≤ 1000000) (HP0 : Rds 109 R s d one) (hsuf : Suf one) (X : List Nat) (t : List UInt8) (w : World) (hX : R ∈ X) (hXs : ∀ x ∈ X, x < w.heap.size) (ht : Sf s t) (h : RS w R s (pos s t) d) (hE : Er w R)
    (hB : w.cell? ⟨B, 0, none⟩ = some (.pointer (some ⟨R, 0, none⟩))) :
    Calls Tryz.prog 108 #[.pointer (some ⟨B, 0, none⟩)] w (RdP R X s d (rowR 4 47 one t) w) := by
  have hmf : ∀ (fn : Fn) (first cap : Array Value) (w : World), (Instr.makeFunc fn first cap).run Tryz.prog w = .ok (.func fn first cap) w := fun _ _ _ _ => rfl
  have HX := Lib.hid hX
  have HXS := Lib.hid hXs
  have hRlt := h.lt
  have hneZ : w.heap.size ∉ [R] := by simp; omega
  have HZ1 := Lib.hid (Bx.new w (.int .i64 0) (.string ⟨#[]⟩) (.slice none 0 0) (.int .i64 0) (.int .i64 0) 24)
  have HK1 := Lib.hid ((Kp.refl [R] w).alloc zero5)
  have HC := Lib.hid (row_seq R s d one hm (w.heap.size :: X) t (w.alloc zero5) (List.mem_cons_of_mem _ hX) (fun x hx => by
    rcases List.mem_cons.1 hx with rfl | hx
    · exact HZ1.out.lt
    · exact Nat.lt_trans (hXs x hx) HZ1.out.lt) ht (h.al zero5) (hE.keep HK1.out) (fun X t w1 a1 a2 a3 a4 a5 _ => HP0 X t w1 a1 a2 a3 a4 a5) hsuf)
  have hBc : (w.alloc zero5).cell? ⟨B, 0, none⟩ = some (.pointer (some ⟨R, 0, none⟩)) := (((Below.refl _ w).alloc (Nat.le_refl _) zero5).cell (p := ⟨B, 0, none⟩) (cell_lt hB)).trans hB
  clear hX hXs h hE
  rcases hx : rowR 4 47 one t with _ | ⟨p, u⟩
  · rw [rdp_none (by rfl)]
    rw [hx] at HC
    have HC2 : Hid (Calls Tryz.prog 107 #[.pointer (some ⟨R, 0, none⟩), .int .i64 4, .int .u8 47, .func (.func 109) #[.pointer (some ⟨R, 0, none⟩)] #[]] (w.alloc zero5) (Left R (w.alloc zero5))) := HC.out
    clear hx HC
    go_enter Tryz.func108, Tryz.ntmps108
    go_wp2_with (go_at_call 107; (with_reducible refine (HC2.out).mono ?_); rintro e w' ⟨b, x, rfl, hl1, hl2, hl3, hl4⟩)
    exact ⟨rfl, Left.after HK1.out ⟨b, x, rfl, hl1, hl2, hl3, hl4⟩⟩
  · rw [rdp_some (by rfl)]
    rw [hx] at HC
    have HC2 : Hid (Calls Tryz.prog 107 #[.pointer (some ⟨R, 0, none⟩), .int .i64 4, .int .u8 47, .func (.func 109) #[.pointer (some ⟨R, 0, none⟩)] #[]] (w.alloc zero5) fun e w' => ∃ a : Nd, e = .returned a.v ∧ a.fo .nil = p ∧ a.ok w' (w.heap.size :: X) ∧ Kp [R] (w.alloc zero5) w' ∧ RS w' R s (pos s u) d) := HC.out
    clear hx HC
    go_enter Tryz.func108, Tryz.ntmps108
    go_wp2_with (go_at_call 107; (with_reducible refine (HC2.out).mono ?_); rintro e w2 ⟨⟨k, l, A, c, mn, mx, kids⟩, rfl, hp, hok, hk2, hr2⟩; have HP := Lib.hid hp; have HOK := Lib.hid hok; have HK2 := Lib.hid (HK1.out.trans hk2); have HR2 := Lib.hid hr2; have HZ2 := Lib.hid (HZ1.out.kp hk2 hneZ); clear hp hok hk2 hr2; have z0 := HZ2.out.c0; have z1 := HZ2.out.c1; have z2 := HZ2.out.c2; have z3 := HZ2.out.c3; have z4 := HZ2.out.c4; have y0 := HZ2.out.f0; have y1 := HZ2.out.f1; have y2 := HZ2.out.f2; have y3 := HZ2.out.f3; have y4 := HZ2.out.f4)
    exact bodyPost_ret (v := .agg #[.int .i64 k, .string l, .slice A kids.len c, .int .i64 mn, .int .i64 mx]) (by simp [results, Tryz.results108, go_sem, z0, z1, z2, z3, z4]) rfl ⟨⟨k, l, A, c, mn, mx, kids⟩, rfl, HP.out, (HOK.out.w5 (b := w.heap.size) (by simp)).less (by intro y hy; simp [hy]), HK2.out.w5 (Or.inr (Nat.le_refl _)), HR2.out.w5 (by omega)⟩
end Go.Proofs.YtpaehicfndkliaaGreatDoor.Pa
