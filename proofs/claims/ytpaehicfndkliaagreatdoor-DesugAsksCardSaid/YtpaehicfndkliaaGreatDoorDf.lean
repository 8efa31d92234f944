import Derived.Test.YtpaehicfndkliaaGreatDoorDc
import Derived.LoopTactic
import Derived.StillTailTactics
import Derived.Deep.RegionLaw

/- The walk of 'row'. Condition: the paths can be read. -/
namespace Go.Proofs.YtpaehicfndkliaaGreatDoor.De
open Go.RowKit Go.Lib Na Go.PN Pa

/-- The last path of a row. -/
theorem last_of (r : Fo) (h : 1 ≤ r.len) : ∃ (dn : Fo) (k : Int) (l : ByteArray) (d : Fo) (mn mx : Int), r = dn.app (.cons k l d mn mx .nil) := by
  induction r with
  | nil => simp [Fo.len] at h
  | cons k l d mn mx r _ ih =>
    by_cases hr : r.len = 0
    · cases r with
      | nil => exact ⟨.nil, k, l, d, mn, mx, rfl⟩
      | cons => simp [Fo.len] at hr
    · obtain ⟨dn, k', l', d', mn', mx', e⟩ := ih (by omega)
      exact ⟨.cons k l d mn mx dn, k', l', d', mn', mx', by rw [e]; rfl⟩
set_option maxRecDepth 100000 in
set_option maxHeartbeats 8000000 in
theorem row_any (K : Int) (A : Option Addr) (c : Nat) (f : Fo) (X : List Nat) (w : World) (hf : At w X f A) (hc : f.len ≤ c) (hc2 : c ≤ 9223372036854775807) (hX : ∀ x ∈ X, x < w.heap.size) :
    Calls Tryz.prog 64 #[.int .i64 K, .slice A f.len c] w (MadeP w X (rowF K f)) := by
  by_cases h0 : f.len = 0
  · have e : f = .nil := by cases f with
      | nil => rfl
      | cons => simp [Fo.len] at h0
    subst e
    have HB := Lib.hid (show ∀ o1 : Obj, Below w.heap.size w (w.alloc o1) from fun o1 => (Below.refl _ w).alloc (by simp) o1)
    clear hf hX h0 hc
    simp only [Fo.len]
    go_enter Tryz.func64, Tryz.ntmps64
    go_wp2_with fail
    exact bodyPost_ret (v := .agg #[.int .i64 1, .string ⟨#[]⟩, .slice none 0 0, .int .i64 0, .int .i64 0]) (by simp [results, Tryz.results64, go_sem]) rfl ⟨⟨1, ⟨#[]⟩, none, 0, 0, 0, .nil⟩, rfl, rfl, ⟨Nat.le_refl _, Nat.zero_le _, trivial⟩, HB.out _⟩
  · obtain ⟨b0, o0, rfl⟩ := at_shape hf (by omega)
    obtain ⟨dn, k, l, d, mn, mx, hdn⟩ := last_of f (by omega)
    have hL : f.len = dn.len + 1 := by rw [hdn, Fo.app_len]; rfl
    have hf' := hf
    rw [hdn] at hf'
    obtain ⟨K1, c1, hcel, hc3, hc4, hat1⟩ := hf'.nth rfl
    obtain ⟨x0, x1, x2, x3, x4⟩ := hcel
    have hb0 : b0 < w.heap.size := cell_lt x0
    have hlt := hf.below (Below.refl _ _)
    have HF := Lib.hid hf
    have HL := Lib.hid hL
    have HD := Lib.hid hdn
    have hm : dn.len + 1 ≤ 9223372036854775807 := by omega
    have hmc : dn.len + 1 ≤ c := by omega
    rw [hL]
    have HX := Lib.hid hX
    have hXs : ∀ x ∈ (w.heap.size + 1) :: w.heap.size :: X, x < w.heap.size + 1 + 1 := by
      intro x hx
      simp only [List.mem_cons] at hx
      rcases hx with rfl | rfl | hx
      · omega
      · omega
      · have := hX x hx; omega
    have HXS := Lib.hid hXs
    have HO0 := Lib.hid (show ∀ o1 o2 : Obj, Nd.ok ((w.alloc o1).alloc o2) ((w.heap.size + 1) :: w.heap.size :: X) ⟨k, l, K1, c1, mn, mx, d⟩ from fun o1 o2 =>
      ((Nd.ok.more (show Nd.ok (w.alloc o1) (w.heap.size :: X) ⟨k, l, K1, c1, mn, mx, d⟩ from (Nd.ok.more (show Nd.ok w X ⟨k, l, K1, c1, mn, mx, d⟩ from ⟨hc3, hc4, hat1⟩) w.heap.size (Nat.le_refl _)).al o1) (w.heap.size + 1) (by simp)).al o2))
    have HZ0 := Lib.hid (show Bx ((w.alloc obj50).alloc (obj5 k l K1 d.len c1 mn mx)) w.heap.size (.int .i64 0) (.string ⟨#[]⟩) (.slice none 0 0) (.int .i64 0) (.int .i64 0) from (Bx.new w (.int .i64 0) (.string ⟨#[]⟩) (.slice none 0 0) (.int .i64 0) (.int .i64 0) 24).al _)
    have HY0 := Lib.hid (show Bx ((w.alloc obj50).alloc (obj5 k l K1 d.len c1 mn mx)) (w.heap.size + 1) (.int .i64 k) (.string l) (.slice K1 d.len c1) (.int .i64 mn) (.int .i64 mx) from by
      have := Bx.new (w.alloc obj50) (.int .i64 k) (.string l) (.slice K1 d.len c1) (.int .i64 mn) (.int .i64 mx) 24
      simpa using this)
    have HB0 := Lib.hid (show Below w.heap.size w ((w.alloc obj50).alloc (obj5 k l K1 d.len c1 mn mx)) from ((Below.refl _ w).alloc (by simp) _).alloc (by simp) _)
    have HS0 := Lib.hid (show w.heap.size + 1 + 1 ≤ ((w.alloc obj50).alloc (obj5 k l K1 d.len c1 mn mx)).heap.size by simp)
    have HR0 := Lib.hid (show Fo.cons k l d mn mx .nil = rowF K (.cons k l d mn mx .nil) from (rowF_one rfl).symm)
    have HM := Lib.hid (show dn.len = dn.len from rfl)
    clear hf hf' hlt hdn hL h0 hc hX hXs hat1
    generalize hdl : dn.len = m at *
    have HDL := Lib.hid hdl
    clear hdl
    go_enter Tryz.func64, Tryz.ntmps64
    go_wp2_with fail
    go_loopw [6] (fun iv wr => ∃ (q : Nat) (d1 r : Fo) (x : Int) (a : Nd), Hid (f = d1.app r) ∧ Hid (d1.len = q) ∧ Hid (x = (q : Int) - 1) ∧ q ≤ m ∧ Hid (1 ≤ r.len) ∧ iv = .int .i64 x ∧ Hid (a.fo .nil = rowF K r) ∧ Hid (a.ok wr ((w.heap.size + 1) :: w.heap.size :: X)) ∧ Hid (Bx wr w.heap.size (.int .i64 0) (.string ⟨#[]⟩) (.slice none 0 0) (.int .i64 0) (.int .i64 0)) ∧ Hid (Bx wr (w.heap.size + 1) (.int .i64 a.k) (.string a.l) (.slice a.A a.kids.len a.c) (.int .i64 a.mn) (.int .i64 a.mx)) ∧ Hid (Below w.heap.size w wr) ∧ Hid (w.heap.size + 1 + 1 ≤ wr.heap.size)) (fun iv _ => (RowKit.intOf iv + 1).toNat)
    case atStart => exact ⟨m, dn, .cons k l d mn mx .nil, (m : Int) + 1 - 2, ⟨k, l, K1, c1, mn, mx, d⟩, HD, HDL, Lib.hid (by omega), Nat.le_refl _, Lib.hid (by simp [Fo.len]), rfl, HR0, HO0.out _ _, HZ0, HY0, HB0, HS0⟩
    case round =>
      obtain ⟨q, d1, r, x, ⟨k2, l2, A2, c2, mn2, mx2, kids2⟩, hq1, hq2, hx, hqm, hr1, rfl, hfo, hok, HZ, HY, HB, HS⟩ := hrel
      clear HO0 HZ0 HY0 HB0 HS0 HR0 x0 x1 x2 x3 x4
      simp only at HY
      by_cases hq : q = 0
      · have hx1 : x = -1 := by have := hx.out; omega
        have hd1 : d1 = .nil := by
          have := hq2.out
          cases d1 with
          | nil => rfl
          | cons => simp [Fo.len] at this; omega
        have HE := Lib.hid (show rowF K f = rowF K r by rw [hq1.out, hd1]; rfl)
        obtain ⟨⟨z0, z1, z2, z3, z4⟩, y0, y1, y2, y3, y4⟩ := bx_all HZ.out
        obtain ⟨⟨p0, p1, p2, p3, p4⟩, s0, s1, s2, s3, s4⟩ := bx_all HY.out
        clear hx
        subst hx1
        clear hd1
        go_wp2_with fail
        exact bodyPost_ret (v := (⟨k2, l2, A2, c2, mn2, mx2, kids2⟩ : Nd).v) (by simp [results, Tryz.results64, go_sem, z0, z1, z2, z3, z4]) rfl (made_w5 (hfo.out.trans HE.out.symm) (hok.out.less (fun y hy => List.mem_cons_of_mem _ hy)) HB.out (Nat.le_refl _) _ _ _ _ _)
      · obtain ⟨q', rfl⟩ : ∃ q', q = q' + 1 := ⟨q - 1, by omega⟩
        obtain rfl : x = (q' : Int) := by have := hx.out; omega
        clear hx
        obtain ⟨d0, k1, l1, g1, mn1, mx1, hd0⟩ := last_of d1 (by have := hq2.out; omega)
        have hq0 : d0.len = q' := by
          have := hq2.out
          rw [hd0, Fo.app_len] at this
          simp only [Fo.len] at this; omega
        have hfe : f = d0.app (.cons k1 l1 g1 mn1 mx1 r) := by rw [hq1.out, hd0, Fo.app_assoc]; rfl
        have hat := (HF.out.grow (Y := (w.heap.size + 1) :: w.heap.size :: X) (fun y hy => by
          simp only [List.mem_cons] at hy
          rcases hy with rfl | rfl | hy
          · exact Or.inr (by omega)
          · exact Or.inr (by omega)
          · exact Or.inl hy)).below HB.out
        rw [hfe] at hat
        obtain ⟨K3, c3, hcel, hc5, hc6, hat1⟩ := hat.nth hq0
        obtain ⟨x0, x1, x2, x3, x4⟩ := hcel
        have HFE := Lib.hid hfe
        have HQ0 := Lib.hid hq0
        obtain ⟨⟨p0, p1, p2, p3, p4⟩, s0, s1, s2, s3, s4⟩ := bx_all HY.out
        have hqc : q' + 1 ≤ c := by omega
        have hbr : b0 < wr.heap.size := cell_lt x0
        have hb0n : b0 ≠ w.heap.size + 1 := by omega
        have hi0 : (0 : Int) ≤ (q' : Int) := by omega
        have hi1 : (q' : Int) < (m : Int) + 1 := by omega
        have hi2 : q' < m + 1 := by omega
        have HK := Lib.hid (show twoF K (.cons k1 l1 g1 mn1 mx1 .nil) (Fo.cons k2 l2 kids2 mn2 mx2 .nil) = rowF K (.cons k1 l1 g1 mn1 mx1 r) by
          have h1 := rowF_cons (K := K) (x := .cons k1 l1 g1 mn1 mx1 .nil) (r := r) rfl hr1.out
          rw [show Fo.cons k2 l2 kids2 mn2 mx2 .nil = rowF K r from hfo.out]
          exact h1.symm)
        have HT := Lib.hid (two_any K ⟨k1, l1, K3, c3, mn1, mx1, g1⟩ ⟨k2, l2, A2, c2, mn2, mx2, kids2⟩ ((w.heap.size + 1) :: w.heap.size :: X) wr.drew
          (Nd.ok.below (show Nd.ok wr ((w.heap.size + 1) :: w.heap.size :: X) ⟨k1, l1, K3, c3, mn1, mx1, g1⟩ from ⟨hc5, hc6, hat1⟩) (Below.refl _ _).drew) (hok.out.below (Below.refl _ _).drew) (fun x hx => by have := HXS.out x hx; have := HS.out; simp; omega))
        unfold Nd.v at HT
        have HY5 := Lib.hid (HY.out.below (Below.refl _ wr).drew)
        have HZ5 := Lib.hid (HZ.out.below (Below.refl _ wr).drew)
        have HB5 := Lib.hid (HB.out.trans ((Below.refl _ wr).drew.mono HB.out.size))
        have HS5 := Lib.hid (show w.heap.size + 1 + 1 ≤ wr.drew.heap.size from HS.out)
        clear hat hfe hq0 hd0
        go_wp2_with fail
        go_still_tail 6, (by kernel_rfl)
        change wpList _ _ _ _ _ wr.drew
        generalize wr.drew = w5 at *
        go_wp2_with (first | (go_at_call 66; (with_reducible refine (HT.out).mono ?_); rintro e w7 ⟨⟨k3, l3, A3, c3, mn3, mx3, d3⟩, rfl, hfo3, hok3, hb7⟩; have HF7 := Lib.hid hfo3; have HO7 := Lib.hid hok3; have HB7 := Lib.hid (HB5.out.trans (hb7.mono HB5.out.size)); have HS7 := Lib.hid (Nat.le_trans HS5.out hb7.size); have HZ7 := Lib.hid (HZ5.out.below hb7); have HY7 := Lib.hid (HY5.out.below hb7); obtain ⟨⟨z0, z1, z2, z3, z4⟩, y0, y1, y2, y3, y4⟩ := bx_all HY7.out; clear hfo3 hok3 hb7))
        exact ⟨⟨q', d0, _, (q' : Int) - 1, ⟨k3, l3, A3, c3, mn3, mx3, d3⟩, HFE, HQ0, Lib.hid rfl, by omega, Lib.hid (by simp [Fo.len]), rfl, Lib.hid (HF7.out.trans HK.out), Lib.hid (ok_w5 HO7.out (by simp)), Lib.hid (HZ7.out.far5 (by omega)), Lib.hid HY7.out.w5, Lib.hid (below_w5 HB7.out (by omega)), Lib.hid (by rw [size_w5]; exact HS7.out)⟩, by simp [RowKit.intOf] <;> omega⟩
end Go.Proofs.YtpaehicfndkliaaGreatDoor.De


/- The walk of 'rep'. Condition: the path can be read. -/
namespace Go.Proofs.YtpaehicfndkliaaGreatDoor.De
open Go.RowKit Go.Lib Na Go.PN Pa

/-- A row that the call has made is made one path. -/
theorem row_rowN (K : Int) {w : World} {base : Nat} {X : List Nat} {v : Value} {n : Nat} {f : Fo} (h : RowN w base X v n f) (hX : ∀ x ∈ X, x < base) (hb : base ≤ w.heap.size) :
    Calls Tryz.prog 64 #[.int .i64 K, v] w (MadeP w X (rowF K f)) := by
  obtain ⟨A, c, rfl, h1, h2, h3⟩ := h.at hX
  have hl := h.len
  subst hl
  exact row_any K A c f X w h3 h1 h2 (fun x hx => by have := hX x hx; omega)
theorem fresh_of {w wr : World} {base : Nat} {X : List Nat} {v : Value} {n : Nat} {f : Fo} {z : Nat} (h : RowN wr base (z :: X) v n f) (hz : w.heap.size ≤ z) (hb : w.heap.size ≤ base) : ∀ y ∈ vb v ++ z :: X, y ∈ X ∨ w.heap.size ≤ y := by
  intro y hy
  rw [List.mem_append, List.mem_cons] at hy
  rcases hy with hy | rfl | hy
  · exact Or.inr (by have := h.lt y hy; omega)
  · exact Or.inr hz
  · exact Or.inl hy
theorem lt_of {wr : World} {base : Nat} {X : List Nat} {v : Value} {n : Nat} {f : Fo} (h : RowN wr base X v n f) (hX : ∀ x ∈ X, x < base) (hb : base ≤ wr.heap.size) : ∀ y ∈ vb v ++ X, y < wr.heap.size := by
  intro y hy
  rw [List.mem_append] at hy
  rcases hy with hy | hy
  · exact (h.lt y hy).2
  · have := hX y hy; omega
set_option maxRecDepth 100000 in
set_option maxHeartbeats 16000000 in
theorem rep_same (a : Nd) (M : Nat) (mx : Int) (X : List Nat) (w : World) (ha : a.ok w X) (hX : ∀ x ∈ X, x < w.heap.size) (hM : M ≤ 1000) (h1 : mx ≠ -1) (h2 : mx ≤ M) (h3 : -9223372036854775808 ≤ mx) :
    Calls Tryz.prog 68 #[a.v, .int .i64 M, .int .i64 mx] w (MadeP w X (repF (a.fo .nil) M mx)) := by
  obtain ⟨iP, hi, hz0, hz1, hz2⟩ := iPath
  have HA := Lib.hid (fun (wr : World) (Y : List Nat) (hb : Below w.heap.size w wr) (hY : ∀ y ∈ Y, y ∈ X ∨ w.heap.size ≤ y) => (ok_grow ha hY).below hb)
  have HX := Lib.hid (show ∀ x ∈ (w.heap.size + 1) :: X, x < w.heap.size + 2 from fun x hx => by
    rcases List.mem_cons.1 hx with rfl | hx
    · omega
    · have := hX x hx; omega)
  have HS0 := Lib.hid (RowN.none ((w.alloc (obj5 a.k a.l a.A a.kids.len a.c a.mn a.mx)).alloc obj50) (w.heap.size + 2) ((w.heap.size + 1) :: X))
  have HK0 := Lib.hid ((Bx.new w (.int .i64 a.k) (.string a.l) (.slice a.A a.kids.len a.c) (.int .i64 a.mn) (.int .i64 a.mx) 24).al obj50)
  have HR0 := Lib.hid (show Bx ((w.alloc (obj5 a.k a.l a.A a.kids.len a.c a.mn a.mx)).alloc obj50) (w.heap.size + 1) (.int .i64 0) (.string ⟨#[]⟩) (.slice none 0 0) (.int .i64 0) (.int .i64 0) from by
    have := Bx.new (w.alloc (obj5 a.k a.l a.A a.kids.len a.c a.mn a.mx)) (.int .i64 0) (.string ⟨#[]⟩) (.slice none 0 0) (.int .i64 0) (.int .i64 0) 24
    simpa using this)
  have HB0 := Lib.hid (show Below w.heap.size w ((w.alloc (obj5 a.k a.l a.A a.kids.len a.c a.mn a.mx)).alloc obj50) from ((Below.refl _ w).alloc (by simp) _).alloc (by simp) _)
  have HZ0 := Lib.hid (show w.heap.size + 2 ≤ ((w.alloc (obj5 a.k a.l a.A a.kids.len a.c a.mn a.mx)).alloc obj50).heap.size by simp)
  have tm1 : (mx == -1) = false := by rw [beq_eq_false_iff_ne]; exact h1
  have tm2 : decide (mx > (M : Int)) = false := decide_eq_false (by omega)
  have HE := Lib.hid (show repF (a.fo .nil) M mx = rowF 4 (rept M (a.fo .nil)) by unfold repF repL; rw [if_neg h1, if_neg (by omega), Fo.app_nil]; rfl)
  unfold Nd.v
  clear ha hX
  go_enter Tryz.func68, Tryz.ntmps68
  go_wp2_with fail
  go_loopw [7, 10] (fun lv iv wr => ∃ q : Nat, iv = .int .i64 q ∧ q ≤ M ∧ Hid (RowN wr (w.heap.size + 2) ((w.heap.size + 1) :: X) lv q (rept q (a.fo .nil))) ∧ Hid (Bx wr w.heap.size (.int .i64 a.k) (.string a.l) (.slice a.A a.kids.len a.c) (.int .i64 a.mn) (.int .i64 a.mx)) ∧ Hid (Bx wr (w.heap.size + 1) (.int .i64 0) (.string ⟨#[]⟩) (.slice none 0 0) (.int .i64 0) (.int .i64 0)) ∧ Hid (Below w.heap.size w wr) ∧ Hid (w.heap.size + 2 ≤ wr.heap.size)) (fun _ iv _ => M - (RowKit.intOf iv).toNat)
  case atStart => exact ⟨0, rfl, Nat.zero_le _, HS0, HK0, HR0, HB0, HZ0⟩
  case round =>
    obtain ⟨q, rfl, hqM, HS, HK, HR, HB, HZ⟩ := hrel
    clear HS0 HK0 HR0 HB0 HZ0
    by_cases hq : q < M
    · have hqi : (q : Int) < (M : Int) := by omega
      obtain ⟨⟨x0, x1, x2, x3, x4⟩, y0, y1, y2, y3, y4⟩ := bx_all (HK.out)
      have HOK := Lib.hid (HA.out wr _ HB.out (fresh_of HS.out (by omega) (by omega)))
      go_wp2_with (first | (obtain ⟨cs8, hown8, hcs8⟩ := HS.out.own; have HCS8 := Lib.hid hcs8; have HOWN8 := Lib.hid (hown8.alloc (obj5 a.k a.l a.A a.kids.len a.c a.mn a.mx)); clear hown8 hcs8; refine wpList_append_own_at _ rfl (.tmp 12) (.tmp 14) 22 rfl (w.heap.size + 2) 24 iP _ 5 64 Tryz.underlying22 hi hz0 hz1 hz2 rfl (by decide) u7 (q) cs8 rfl HOWN8.out ⟨(wr).heap.size, 0, none⟩ 1 1 [.int .i64 a.k, .string a.l, .slice a.A a.kids.len a.c, .int .i64 a.mn, .int .i64 a.mx] rfl rfl (lit5 (wr) _ _ _ _ _ _) (csl_one _ _ _ _ _ _ _) (by unfold maxLen; omega) (by omega) (by have := HZ.out; simp; omega) ?_; intro v8 w8 hown8 hgrow8 _ hat8; obtain ⟨HS8, HB8, HZ8⟩ := HS.out.push_all a.k a.l a.A a.c a.mn a.mx a.kids HOK.out HCS8.out HZ.out hown8 hgrow8 hat8; clear hown8 hgrow8 hat8))
      exact ⟨⟨q + 1, by go_num, by omega, by rw [rept_snoc]; exact HS8, Lib.hid (HK.out.at_below HB8.out (by omega)), Lib.hid (HR.out.at_below HB8.out (by omega)), Lib.hid (bt HB.out HB8.out (by omega)), Lib.hid (Nat.le_trans HZ.out HZ8.out)⟩, by simp [RowKit.intOf] <;> omega⟩
    · have hqi : ¬ (q : Int) < (M : Int) := by omega
      obtain rfl : q = M := by omega
      obtain ⟨⟨x0, x1, x2, x3, x4⟩, y0, y1, y2, y3, y4⟩ := bx_all (HK.out)
      go_wp2_with (first | (go_at_call 64; (with_reducible refine (row_rowN 4 HS.out HX.out HZ.out).mono ?_); rintro e w9 ⟨⟨k9, l9, A9, c9, mn9, mx9, d9⟩, rfl, hfo9, hok9, hb9⟩; have HF9 := Lib.hid hfo9; have HO9 := Lib.hid hok9; have HB9 := Lib.hid hb9; clear hfo9 hok9 hb9; obtain ⟨⟨r0, r1, r2, r3, r4⟩, s0, s1, s2, s3, s4⟩ := bx_all (HR.out.below HB9.out)))
      exact bodyPost_ret (v := (⟨k9, l9, A9, c9, mn9, mx9, d9⟩ : Nd).v) (by simp [results, Tryz.results68, go_sem, r0, r1, r2, r3, r4]) rfl (made_w5 (HF9.out.trans HE.out.symm) HO9.out (bt HB.out HB9.out HB.out.size) (by omega) _ _ _ _ _)
set_option maxRecDepth 100000 in
set_option maxHeartbeats 16000000 in
theorem rep_inf (a : Nd) (M : Nat)  (X : List Nat) (w : World) (ha : a.ok w X) (hX : ∀ x ∈ X, x < w.heap.size) (hM : M ≤ 1000)  :
    Calls Tryz.prog 68 #[a.v, .int .i64 M, .int .i64 (-1)] w (MadeP w X (repF (a.fo .nil) M (-1))) := by
  obtain ⟨iP, hi, hz0, hz1, hz2⟩ := iPath
  have HA := Lib.hid (fun (wr : World) (Y : List Nat) (hb : Below w.heap.size w wr) (hY : ∀ y ∈ Y, y ∈ X ∨ w.heap.size ≤ y) => (ok_grow ha hY).below hb)
  have HX := Lib.hid (show ∀ x ∈ (w.heap.size + 1) :: X, x < w.heap.size + 2 from fun x hx => by
    rcases List.mem_cons.1 hx with rfl | hx
    · omega
    · have := hX x hx; omega)
  have HS0 := Lib.hid (RowN.none ((w.alloc (obj5 a.k a.l a.A a.kids.len a.c a.mn a.mx)).alloc obj50) (w.heap.size + 2) ((w.heap.size + 1) :: X))
  have HK0 := Lib.hid ((Bx.new w (.int .i64 a.k) (.string a.l) (.slice a.A a.kids.len a.c) (.int .i64 a.mn) (.int .i64 a.mx) 24).al obj50)
  have HR0 := Lib.hid (show Bx ((w.alloc (obj5 a.k a.l a.A a.kids.len a.c a.mn a.mx)).alloc obj50) (w.heap.size + 1) (.int .i64 0) (.string ⟨#[]⟩) (.slice none 0 0) (.int .i64 0) (.int .i64 0) from by
    have := Bx.new (w.alloc (obj5 a.k a.l a.A a.kids.len a.c a.mn a.mx)) (.int .i64 0) (.string ⟨#[]⟩) (.slice none 0 0) (.int .i64 0) (.int .i64 0) 24
    simpa using this)
  have HB0 := Lib.hid (show Below w.heap.size w ((w.alloc (obj5 a.k a.l a.A a.kids.len a.c a.mn a.mx)).alloc obj50) from ((Below.refl _ w).alloc (by simp) _).alloc (by simp) _)
  have HZ0 := Lib.hid (show w.heap.size + 2 ≤ ((w.alloc (obj5 a.k a.l a.A a.kids.len a.c a.mn a.mx)).alloc obj50).heap.size by simp)
  have HE := Lib.hid (show repF (a.fo .nil) M (-1) = rowF 4 ((rept M (a.fo .nil)).app (starF (a.fo .nil))) by unfold repF repL; rw [if_pos rfl]; rfl)
  unfold Nd.v
  clear ha hX
  go_enter Tryz.func68, Tryz.ntmps68
  go_wp2_with fail
  go_loopw [7, 10] (fun lv iv wr => ∃ q : Nat, iv = .int .i64 q ∧ q ≤ M ∧ Hid (RowN wr (w.heap.size + 2) ((w.heap.size + 1) :: X) lv q (rept q (a.fo .nil))) ∧ Hid (Bx wr w.heap.size (.int .i64 a.k) (.string a.l) (.slice a.A a.kids.len a.c) (.int .i64 a.mn) (.int .i64 a.mx)) ∧ Hid (Bx wr (w.heap.size + 1) (.int .i64 0) (.string ⟨#[]⟩) (.slice none 0 0) (.int .i64 0) (.int .i64 0)) ∧ Hid (Below w.heap.size w wr) ∧ Hid (w.heap.size + 2 ≤ wr.heap.size)) (fun _ iv _ => M - (RowKit.intOf iv).toNat)
  case atStart => exact ⟨0, rfl, Nat.zero_le _, HS0, HK0, HR0, HB0, HZ0⟩
  case round =>
    obtain ⟨q, rfl, hqM, HS, HK, HR, HB, HZ⟩ := hrel
    clear HS0 HK0 HR0 HB0 HZ0
    by_cases hq : q < M
    · have hqi : (q : Int) < (M : Int) := by omega
      obtain ⟨⟨x0, x1, x2, x3, x4⟩, y0, y1, y2, y3, y4⟩ := bx_all (HK.out)
      have HOK := Lib.hid (HA.out wr _ HB.out (fresh_of HS.out (by omega) (by omega)))
      go_wp2_with (first | (obtain ⟨cs8, hown8, hcs8⟩ := HS.out.own; have HCS8 := Lib.hid hcs8; have HOWN8 := Lib.hid (hown8.alloc (obj5 a.k a.l a.A a.kids.len a.c a.mn a.mx)); clear hown8 hcs8; refine wpList_append_own_at _ rfl (.tmp 12) (.tmp 14) 22 rfl (w.heap.size + 2) 24 iP _ 5 64 Tryz.underlying22 hi hz0 hz1 hz2 rfl (by decide) u7 (q) cs8 rfl HOWN8.out ⟨(wr).heap.size, 0, none⟩ 1 1 [.int .i64 a.k, .string a.l, .slice a.A a.kids.len a.c, .int .i64 a.mn, .int .i64 a.mx] rfl rfl (lit5 (wr) _ _ _ _ _ _) (csl_one _ _ _ _ _ _ _) (by unfold maxLen; omega) (by omega) (by have := HZ.out; simp; omega) ?_; intro v8 w8 hown8 hgrow8 _ hat8; obtain ⟨HS8, HB8, HZ8⟩ := HS.out.push_all a.k a.l a.A a.c a.mn a.mx a.kids HOK.out HCS8.out HZ.out hown8 hgrow8 hat8; clear hown8 hgrow8 hat8))
      exact ⟨⟨q + 1, by go_num, by omega, by rw [rept_snoc]; exact HS8, Lib.hid (HK.out.at_below HB8.out (by omega)), Lib.hid (HR.out.at_below HB8.out (by omega)), Lib.hid (bt HB.out HB8.out (by omega)), Lib.hid (Nat.le_trans HZ.out HZ8.out)⟩, by simp [RowKit.intOf] <;> omega⟩
    · have hqi : ¬ (q : Int) < (M : Int) := by omega
      obtain rfl : q = M := by omega
      obtain ⟨⟨x0, x1, x2, x3, x4⟩, y0, y1, y2, y3, y4⟩ := bx_all (HK.out)
      have HST := Lib.hid (star_any a (vb u7 ++ (w.heap.size + 1) :: X) wr (HA.out wr _ HB.out (fresh_of HS.out (by omega) (by omega))) (lt_of HS.out HX.out HZ.out))
      unfold Nd.v at HST
      go_wp2_with (first
        | (go_at_call 65; (with_reducible refine (HST.out).mono ?_); rintro e w2 ⟨⟨k2, l2, A2, c2, mn2, mx2, d2⟩, rfl, hfo2, hok2, hb2⟩; have HF2 := Lib.hid hfo2; have HO2 := Lib.hid hok2; have HB2 := Lib.hid hb2; clear hfo2 hok2 hb2; have HS2 := Lib.hid (HS.out.below HB2.out); have HZ2 := Lib.hid (Nat.le_trans HZ.out HB2.out.size))
        | (obtain ⟨cs8, hown8, hcs8⟩ := HS2.out.own; have HCS8 := Lib.hid hcs8; have HOWN8 := Lib.hid (hown8.alloc (obj5 k2 l2 A2 d2.len c2 mn2 mx2)); clear hown8 hcs8; refine wpList_append_own_at _ rfl (.tmp 19) (.tmp 22) 22 rfl (w.heap.size + 2) 24 iP _ 5 64 Tryz.underlying22 hi hz0 hz1 hz2 rfl (by decide) u7 (q) cs8 rfl HOWN8.out ⟨(w2).heap.size, 0, none⟩ 1 1 [.int .i64 k2, .string l2, .slice A2 d2.len c2, .int .i64 mn2, .int .i64 mx2] rfl rfl (lit5 (w2) _ _ _ _ _ _) (csl_one _ _ _ _ _ _ _) (by unfold maxLen; omega) (by omega) (by have := HZ2.out; simp; omega) ?_; intro v8 w8 hown8 hgrow8 _ hat8; obtain ⟨HS8, HB8, HZ8⟩ := HS2.out.push_all k2 l2 A2 c2 mn2 mx2 d2 HO2.out HCS8.out HZ2.out hown8 hgrow8 hat8; clear hown8 hgrow8 hat8)
        | (go_at_call 64; (with_reducible refine (row_rowN 4 HS8.out HX.out (Nat.le_trans HZ2.out HZ8.out)).mono ?_); rintro e w9 ⟨⟨k9, l9, A9, c9, mn9, mx9, d9⟩, rfl, hfo9, hok9, hb9⟩; have HF9 := Lib.hid hfo9; have HO9 := Lib.hid hok9; have HB9 := Lib.hid hb9; clear hfo9 hok9 hb9; obtain ⟨⟨r0, r1, r2, r3, r4⟩, s0, s1, s2, s3, s4⟩ := bx_all (((HR.out.below HB2.out).at_below HB8.out (by omega)).below HB9.out)))
      have HF2b := HF2.out
      unfold Nd.fo at HF2b
      exact bodyPost_ret (v := (⟨k9, l9, A9, c9, mn9, mx9, d9⟩ : Nd).v) (by simp [results, Tryz.results68, go_sem, r0, r1, r2, r3, r4]) rfl (made_w5 (HF9.out.trans (by rw [HE.out, ← HF2.out])) HO9.out (bt (bt (bt HB.out HB2.out HB.out.size) HB8.out (by omega)) HB9.out (Nat.le_trans (Nat.le_trans HB.out.size HB2.out.size) HZ8.out)) (by omega) _ _ _ _ _)
set_option maxRecDepth 100000 in
set_option maxHeartbeats 16000000 in
theorem rep_more (a : Nd) (M : Nat) (T : Nat) (X : List Nat) (w : World) (ha : a.ok w X) (hX : ∀ x ∈ X, x < w.heap.size) (hM : M ≤ 1000) (hT : T ≤ 1000) :
    Calls Tryz.prog 68 #[a.v, .int .i64 M, .int .i64 ((M : Int) + 1 + T)] w (MadeP w X (repF (a.fo .nil) M ((M : Int) + 1 + T))) := by
  obtain ⟨iP, hi, hz0, hz1, hz2⟩ := iPath
  have HA := Lib.hid (fun (wr : World) (Y : List Nat) (hb : Below w.heap.size w wr) (hY : ∀ y ∈ Y, y ∈ X ∨ w.heap.size ≤ y) => (ok_grow ha hY).below hb)
  have HX := Lib.hid (show ∀ x ∈ (w.heap.size + 1) :: X, x < w.heap.size + 2 from fun x hx => by
    rcases List.mem_cons.1 hx with rfl | hx
    · omega
    · have := hX x hx; omega)
  have HS0 := Lib.hid (RowN.none ((w.alloc (obj5 a.k a.l a.A a.kids.len a.c a.mn a.mx)).alloc obj50) (w.heap.size + 2) ((w.heap.size + 1) :: X))
  have HK0 := Lib.hid ((Bx.new w (.int .i64 a.k) (.string a.l) (.slice a.A a.kids.len a.c) (.int .i64 a.mn) (.int .i64 a.mx) 24).al obj50)
  have HR0 := Lib.hid (show Bx ((w.alloc (obj5 a.k a.l a.A a.kids.len a.c a.mn a.mx)).alloc obj50) (w.heap.size + 1) (.int .i64 0) (.string ⟨#[]⟩) (.slice none 0 0) (.int .i64 0) (.int .i64 0) from by
    have := Bx.new (w.alloc (obj5 a.k a.l a.A a.kids.len a.c a.mn a.mx)) (.int .i64 0) (.string ⟨#[]⟩) (.slice none 0 0) (.int .i64 0) (.int .i64 0) 24
    simpa using this)
  have HB0 := Lib.hid (show Below w.heap.size w ((w.alloc (obj5 a.k a.l a.A a.kids.len a.c a.mn a.mx)).alloc obj50) from ((Below.refl _ w).alloc (by simp) _).alloc (by simp) _)
  have HZ0 := Lib.hid (show w.heap.size + 2 ≤ ((w.alloc (obj5 a.k a.l a.A a.kids.len a.c a.mn a.mx)).alloc obj50).heap.size by simp)
  have tm1 : (((M : Int) + 1 + T) == -1) = false := by rw [beq_eq_false_iff_ne]; omega
  have tm2 : decide (((M : Int) + 1 + T) > (M : Int)) = true := decide_eq_true (by omega)
  have HE := Lib.hid (show repF (a.fo .nil) M ((M : Int) + 1 + T) = rowF 4 ((rept M (a.fo .nil)).app (tailF T (a.fo .nil))) by
    unfold repF repL
    rw [if_neg (by omega), if_pos (by omega), show ((M : Int) + 1 + T - M - 1).toNat = T from by omega]
    rfl)
  unfold Nd.v
  clear ha hX
  go_enter Tryz.func68, Tryz.ntmps68
  go_wp2_with fail
  go_loopw [7, 10] (fun lv iv wr => ∃ q : Nat, iv = .int .i64 q ∧ q ≤ M ∧ Hid (RowN wr (w.heap.size + 2) ((w.heap.size + 1) :: X) lv q (rept q (a.fo .nil))) ∧ Hid (Bx wr w.heap.size (.int .i64 a.k) (.string a.l) (.slice a.A a.kids.len a.c) (.int .i64 a.mn) (.int .i64 a.mx)) ∧ Hid (Bx wr (w.heap.size + 1) (.int .i64 0) (.string ⟨#[]⟩) (.slice none 0 0) (.int .i64 0) (.int .i64 0)) ∧ Hid (Below w.heap.size w wr) ∧ Hid (w.heap.size + 2 ≤ wr.heap.size)) (fun _ iv _ => M - (RowKit.intOf iv).toNat)
  case atStart => exact ⟨0, rfl, Nat.zero_le _, HS0, HK0, HR0, HB0, HZ0⟩
  case round =>
    obtain ⟨q, rfl, hqM, HS, HK, HR, HB, HZ⟩ := hrel
    clear HS0 HK0 HR0 HB0 HZ0
    by_cases hq : q < M
    · have hqi : (q : Int) < (M : Int) := by omega
      obtain ⟨⟨x0, x1, x2, x3, x4⟩, y0, y1, y2, y3, y4⟩ := bx_all (HK.out)
      have HOK := Lib.hid (HA.out wr _ HB.out (fresh_of HS.out (by omega) (by omega)))
      go_wp2_with (first | (obtain ⟨cs8, hown8, hcs8⟩ := HS.out.own; have HCS8 := Lib.hid hcs8; have HOWN8 := Lib.hid (hown8.alloc (obj5 a.k a.l a.A a.kids.len a.c a.mn a.mx)); clear hown8 hcs8; refine wpList_append_own_at _ rfl (.tmp 12) (.tmp 14) 22 rfl (w.heap.size + 2) 24 iP _ 5 64 Tryz.underlying22 hi hz0 hz1 hz2 rfl (by decide) u7 (q) cs8 rfl HOWN8.out ⟨(wr).heap.size, 0, none⟩ 1 1 [.int .i64 a.k, .string a.l, .slice a.A a.kids.len a.c, .int .i64 a.mn, .int .i64 a.mx] rfl rfl (lit5 (wr) _ _ _ _ _ _) (csl_one _ _ _ _ _ _ _) (by unfold maxLen; omega) (by omega) (by have := HZ.out; simp; omega) ?_; intro v8 w8 hown8 hgrow8 _ hat8; obtain ⟨HS8, HB8, HZ8⟩ := HS.out.push_all a.k a.l a.A a.c a.mn a.mx a.kids HOK.out HCS8.out HZ.out hown8 hgrow8 hat8; clear hown8 hgrow8 hat8))
      exact ⟨⟨q + 1, by go_num, by omega, by rw [rept_snoc]; exact HS8, Lib.hid (HK.out.at_below HB8.out (by omega)), Lib.hid (HR.out.at_below HB8.out (by omega)), Lib.hid (bt HB.out HB8.out (by omega)), Lib.hid (Nat.le_trans HZ.out HZ8.out)⟩, by simp [RowKit.intOf] <;> omega⟩
    · have hqi : ¬ (q : Int) < (M : Int) := by omega
      obtain rfl : q = M := by omega
      obtain ⟨⟨x0, x1, x2, x3, x4⟩, y0, y1, y2, y3, y4⟩ := bx_all (HK.out)
      have HMB := Lib.hid (maybe_any a (vb u7 ++ (w.heap.size + 1) :: X) wr (HA.out wr _ HB.out (fresh_of HS.out (by omega) (by omega))) (lt_of HS.out HX.out HZ.out))
      unfold Nd.v at HMB
      go_wp2_with (first
        | (go_at_call 67; (with_reducible refine (HMB.out).mono ?_); rintro e w2 ⟨⟨k2, l2, A2, c2, mn2, mx2, d2⟩, rfl, hfo2, hok2, hb2⟩; have HF2 := Lib.hid hfo2; have HO2 := Lib.hid hok2; have HB2 := Lib.hid hb2; clear hfo2 hok2 hb2))
      have HNX := Lib.hid (show ∀ x ∈ vb u7 ++ (w.heap.size + 1) :: X, x < w2.heap.size from fun x hx => Nat.lt_of_lt_of_le (lt_of HS.out HX.out HZ.out x hx) HB2.out.size)
      have HS3 := Lib.hid (((HS.out.below HB2.out).grow (Y := w2.heap.size :: (w.heap.size + 1) :: X) (fun y hy => by
        rcases List.mem_cons.1 hy with rfl | hy
        · exact Or.inr (Nat.le_refl _)
        · exact Or.inl hy)).below ((Below.refl _ _).alloc (Nat.le_refl _) (obj5 k2 l2 A2 d2.len c2 mn2 mx2)))
      have HK3 := Lib.hid ((HK.out.below HB2.out).al (obj5 k2 l2 A2 d2.len c2 mn2 mx2))
      have HR3 := Lib.hid ((HR.out.below HB2.out).al (obj5 k2 l2 A2 d2.len c2 mn2 mx2))
      have HT3 := Lib.hid (Bx.new w2 (.int .i64 k2) (.string l2) (.slice A2 d2.len c2) (.int .i64 mn2) (.int .i64 mx2) 24)
      have HO3 := Lib.hid (((HO2.out.more w2.heap.size (Nat.le_refl _))).al (obj5 k2 l2 A2 d2.len c2 mn2 mx2))
      have HB3 := Lib.hid ((bt HB.out HB2.out HB.out.size).alloc (Nat.le_trans HB.out.size HB2.out.size) (obj5 k2 l2 A2 d2.len c2 mn2 mx2))
      have HZ3 := Lib.hid (show w.heap.size + 2 ≤ (w2.alloc (obj5 k2 l2 A2 d2.len c2 mn2 mx2)).heap.size by have := HZ.out; have := HB2.out.size; simp; omega)
      have HZ2 := Lib.hid (show w.heap.size + 2 ≤ w2.heap.size by have := HZ.out; have := HB2.out.size; omega)
      clear HK HR HB HZ HS x0 x1 x2 x3 x4 y0 y1 y2 y3 y4
      go_loopw [34] (fun iv wx => ∃ (j : Nat) (t : Nd), iv = .int .i64 j ∧ j ≤ T ∧ Hid (t.fo .nil = tailF j (a.fo .nil)) ∧ Hid (t.ok wx (w2.heap.size :: (vb u7 ++ (w.heap.size + 1) :: X))) ∧ Hid (Bx wx w2.heap.size (.int .i64 t.k) (.string t.l) (.slice t.A t.kids.len t.c) (.int .i64 t.mn) (.int .i64 t.mx)) ∧ Hid (RowN wx (w.heap.size + 2) (w2.heap.size :: (w.heap.size + 1) :: X) u7 q (rept q (a.fo .nil))) ∧ Hid (Bx wx w.heap.size (.int .i64 a.k) (.string a.l) (.slice a.A a.kids.len a.c) (.int .i64 a.mn) (.int .i64 a.mx)) ∧ Hid (Bx wx (w.heap.size + 1) (.int .i64 0) (.string ⟨#[]⟩) (.slice none 0 0) (.int .i64 0) (.int .i64 0)) ∧ Hid (Below w.heap.size w wx) ∧ Hid (w.heap.size + 2 ≤ wx.heap.size)) (fun iv _ => T - (RowKit.intOf iv).toNat)
      case atStart => exact ⟨0, ⟨k2, l2, A2, c2, mn2, mx2, d2⟩, rfl, Nat.zero_le _, HF2, HO3, HT3, HS3, HK3, HR3, HB3, HZ3⟩
      case round =>
        obtain ⟨j, ⟨k4, l4, A4, c4, mn4, mx4, d4⟩, rfl, hjT, HFT, HOT, HT, HS, HK, HR, HB, HZ⟩ := hrel
        clear HS3 HK3 HR3 HT3 HO3 HB3 HZ3 HF2 HO2 HB2 HMB
        simp only at HT
        have HS1 := Lib.hid (HS.out.grow (Y := (w.heap.size + 1) :: X) (fun y hy => Or.inl (List.mem_cons_of_mem _ hy)))
        obtain ⟨⟨x0, x1, x2, x3, x4⟩, y0, y1, y2, y3, y4⟩ := bx_all (HK.out)
        obtain ⟨⟨p0, p1, p2, p3, p4⟩, o0, o1, o2, o3, o4⟩ := bx_all (HT.out)
        have HZ2x := HZ2.out
        by_cases hj : j < T
        · have hji : (j : Int) < (T : Int) := by omega
          have HTW := Lib.hid (two_any 4 a ⟨k4, l4, A4, c4, mn4, mx4, d4⟩ (w2.heap.size :: (vb u7 ++ (w.heap.size + 1) :: X)) wr (HA.out wr _ HB.out (fun y hy => by
            rcases List.mem_cons.1 hy with rfl | hy
            · exact Or.inr (by omega)
            · exact fresh_of HS1.out (by omega) (by omega) y hy)) HOT.out (fun x hx => by
            rcases List.mem_cons.1 hx with rfl | hx
            · exact HT.out.lt
            · exact lt_of HS1.out HX.out HZ.out x hx))
          unfold Nd.v at HTW
          go_wp2_with (first
            | (go_at_call 66; (with_reducible refine (HTW.out).mono ?_); rintro e w5 ⟨⟨k5, l5, A5, c5, mn5, mx5, d5⟩, rfl, hfo5, hok5, hb5⟩; have HF5 := Lib.hid hfo5; have HO5 := Lib.hid hok5; have HB5 := Lib.hid hb5; clear hfo5 hok5 hb5; have HLT5 := Lib.hid (show ∀ x ∈ w2.heap.size :: (vb u7 ++ (w.heap.size + 1) :: X), x < w5.heap.size from fun x hx => (by rcases List.mem_cons.1 hx with rfl | hx; exact Nat.lt_of_lt_of_le HT.out.lt HB5.out.size; exact Nat.lt_of_lt_of_le (lt_of HS1.out HX.out HZ.out x hx) HB5.out.size)); have HMB := Lib.hid (maybe_any ⟨k5, l5, A5, c5, mn5, mx5, d5⟩ (w2.heap.size :: (vb u7 ++ (w.heap.size + 1) :: X)) w5 HO5.out HLT5.out))
            | (go_at_call 67; (with_reducible refine (HMB.out).mono ?_); rintro e w6 ⟨⟨k6, l6, A6, c6, mn6, mx6, d6⟩, rfl, hfo6, hok6, hb6⟩; have HF6 := Lib.hid hfo6; have HO6 := Lib.hid hok6; have HB6 := Lib.hid hb6; clear hfo6 hok6 hb6; obtain ⟨⟨r0, r1, r2, r3, r4⟩, s0, s1, s2, s3, s4⟩ := bx_all ((HT.out.below HB5.out).below HB6.out)))
          have hg := HNX.out
          exact ⟨⟨j + 1, ⟨k6, l6, A6, c6, mn6, mx6, d6⟩, by go_num, by omega, Lib.hid (by rw [HF6.out]; show maybeF (Fo.cons k5 l5 d5 mn5 mx5 .nil) = _; rw [show Fo.cons k5 l5 d5 mn5 mx5 .nil = _ from HF5.out, HFT.out]; rfl), Lib.hid (ok_w5 HO6.out (by simp)), Lib.hid ((HT.out.below HB5.out).below HB6.out).w5, Lib.hid (((HS.out.below HB5.out).below HB6.out).w5 (by simp) (fun hx => by have := hg _ (List.mem_append_left _ hx); omega)), Lib.hid (((HK.out.below HB5.out).below HB6.out).far5 (by omega)), Lib.hid (((HR.out.below HB5.out).below HB6.out).far5 (by omega)), Lib.hid (below_w5 (bt (bt HB.out HB5.out HB.out.size) HB6.out (Nat.le_trans HB.out.size HB5.out.size)) (by omega)), Lib.hid (by rw [size_w5]; exact Nat.le_trans (Nat.le_trans HZ.out HB5.out.size) HB6.out.size)⟩, by simp [RowKit.intOf] <;> omega⟩
        · have hji : ¬ (j : Int) < (T : Int) := by omega
          obtain rfl : j = T := by omega
          have HO4 := Lib.hid (show Nd.ok wr (vb u7 ++ (w.heap.size + 1) :: X) ⟨k4, l4, A4, c4, mn4, mx4, d4⟩ from HOT.out.less (fun y hy => List.mem_cons_of_mem _ hy))
          go_wp2_with (first
            | (obtain ⟨cs8, hown8, hcs8⟩ := HS1.out.own; have HCS8 := Lib.hid hcs8; have HOWN8 := Lib.hid (hown8.alloc (obj5 k4 l4 A4 d4.len c4 mn4 mx4)); clear hown8 hcs8; refine wpList_append_own_at _ rfl (.tmp 41) (.tmp 43) 22 rfl (w.heap.size + 2) 24 iP _ 5 64 Tryz.underlying22 hi hz0 hz1 hz2 rfl (by decide) u7 (q) cs8 rfl HOWN8.out ⟨(wr).heap.size, 0, none⟩ 1 1 [.int .i64 k4, .string l4, .slice A4 d4.len c4, .int .i64 mn4, .int .i64 mx4] rfl rfl (lit5 (wr) _ _ _ _ _ _) (csl_one _ _ _ _ _ _ _) (by unfold maxLen; omega) (by omega) (by have := HZ.out; simp; omega) ?_; intro v8 w8 hown8 hgrow8 _ hat8; obtain ⟨HS8, HB8, HZ8⟩ := HS1.out.push_all k4 l4 A4 c4 mn4 mx4 d4 HO4.out HCS8.out HZ.out hown8 hgrow8 hat8; clear hown8 hgrow8 hat8)
            | (go_at_call 64; (with_reducible refine (row_rowN 4 HS8.out HX.out (Nat.le_trans HZ.out HZ8.out)).mono ?_); rintro e w9 ⟨⟨k9, l9, A9, c9, mn9, mx9, d9⟩, rfl, hfo9, hok9, hb9⟩; have HF9 := Lib.hid hfo9; have HO9 := Lib.hid hok9; have HB9 := Lib.hid hb9; clear hfo9 hok9 hb9; obtain ⟨⟨r0, r1, r2, r3, r4⟩, s0, s1, s2, s3, s4⟩ := bx_all ((HR.out.at_below HB8.out (by omega)).below HB9.out)))
          have HFTb := HFT.out
          unfold Nd.fo at HFTb
          exact bodyPost_ret (v := (⟨k9, l9, A9, c9, mn9, mx9, d9⟩ : Nd).v) (by simp [results, Tryz.results68, go_sem, r0, r1, r2, r3, r4]) rfl (made_w5 (HF9.out.trans (by rw [HE.out, ← HFT.out])) HO9.out (bt (bt HB.out HB8.out (by omega)) HB9.out (Nat.le_trans HB.out.size HZ8.out)) (by omega) _ _ _ _ _)
end Go.Proofs.YtpaehicfndkliaaGreatDoor.De


/- The walk of 'plain'. Condition: the path may be. -/
namespace Go.Proofs.YtpaehicfndkliaaGreatDoor.De
open Go.RowKit Go.Lib Na Go.PN Pa

theorem Val.app {f g : Fo} (h : Val (f.app g)) : Val g := by
  induction f with
  | nil => exact h
  | cons k l d mn mx r _ ih => exact ih h.cons.2.2
theorem Val.single {k : Int} {l : ByteArray} {d : Fo} {mn mx : Int} {r : Fo} (h : Val (.cons k l d mn mx r)) : Val (.cons k l d mn mx .nil) := Val.mk h.cons.1 h.cons.2.1 rfl
/-- 'rep' at every pair of bounds. -/
theorem rep_any (a : Nd) (M mx : Int) (X : List Nat) (w : World) (ha : a.ok w X) (hX : ∀ x ∈ X, x < w.heap.size) (h0 : 0 ≤ M) (h8 : M ≤ 8) (hm : mx = -1 ∨ (0 ≤ mx ∧ mx ≤ 8)) :
    Calls Tryz.prog 68 #[a.v, .int .i64 M, .int .i64 mx] w (MadeP w X (repF (a.fo .nil) M mx)) := by
  obtain ⟨m, rfl⟩ := Int.eq_ofNat_of_zero_le h0
  by_cases h1 : mx = -1
  · subst h1; exact rep_inf a m X w ha hX (by omega)
  · by_cases h2 : mx ≤ m
    · exact rep_same a m mx X w ha hX (by omega) h1 h2 (by omega)
    · obtain ⟨t, rfl⟩ : ∃ t : Nat, mx = (m : Int) + 1 + t := ⟨(mx - m - 1).toNat, by omega⟩
      exact rep_more a m t X w ha hX (by omega) (by omega)
set_option maxRecDepth 100000 in
set_option maxHeartbeats 16000000 in
theorem plain_n (n : Nat) : ∀ (a : Nd) (X : List Nat) (w : World), a.kids.sz < n → a.kids.sz ≤ 60 → Val (a.fo .nil) → a.ok w X → (∀ x ∈ X, x < w.heap.size) →
    Calls Tryz.prog 34 #[a.v] w (MadeP w X (pl1 a.k a.l (plL a.kids) a.mn a.mx)) := by
  induction n with
  | zero => intro a X w hn; omega
  | succ n ih =>
    intro a X w hn h60 hval hok hX
    obtain ⟨iP, hi, hz0, hz1, hz2⟩ := iPath
    obtain ⟨k, l, A, c, mn, mx, kids⟩ := a
    obtain ⟨hc, hc2, hat⟩ := hok
    unfold Nd.v
    simp only at hn h60 hc hc2 hat hval ⊢
    have hone := one_zero hval.cons.1
    have hvk := hval.cons.2.1
    have HN := Lib.hid hn
    have HV := Lib.hid hvk
    have HONE := Lib.hid hone
    have HF := Lib.hid (fun (Y : List Nat) (hY : ∀ y ∈ Y, y ∈ X ∨ w.heap.size ≤ y) => hat.grow hY)
    have HAT := Lib.hid hat
    have IH := Lib.hid ih
    have HX := Lib.hid (show ∀ x ∈ (w.heap.size + 1) :: X, x < w.heap.size + 2 from fun x hx => by
      rcases List.mem_cons.1 hx with rfl | hx
      · omega
      · have := hX x hx; omega)
    have hkl : kids.len ≤ 60 := by have := sz_len kids; omega
    have HS0 := Lib.hid (RowN.none ((w.alloc (obj5 k l A kids.len c mn mx)).alloc obj50) (w.heap.size + 2) ((w.heap.size + 1) :: X))
    have HK0 := Lib.hid ((Bx.new w (.int .i64 k) (.string l) (.slice A kids.len c) (.int .i64 mn) (.int .i64 mx) 24).al obj50)
    have HR0 := Lib.hid (show Bx ((w.alloc (obj5 k l A kids.len c mn mx)).alloc obj50) (w.heap.size + 1) (.int .i64 0) (.string ⟨#[]⟩) (.slice none 0 0) (.int .i64 0) (.int .i64 0) from by
      have := Bx.new (w.alloc (obj5 k l A kids.len c mn mx)) (.int .i64 0) (.string ⟨#[]⟩) (.slice none 0 0) (.int .i64 0) (.int .i64 0) 24
      simpa using this)
    have HB0 := Lib.hid (show Below w.heap.size w ((w.alloc (obj5 k l A kids.len c mn mx)).alloc obj50) from ((Below.refl _ w).alloc (by simp) _).alloc (by simp) _)
    have HZ0 := Lib.hid (show w.heap.size + 2 ≤ ((w.alloc (obj5 k l A kids.len c mn mx)).alloc obj50).heap.size by simp)
    clear hat hn ih hX hval hvk hone
    go_enter Tryz.func34, Tryz.ntmps34
    go_wp2_with fail
    go_loopw [3, 9] (fun lv iv wr => ∃ (q : Nat) (dn r : Fo), Hid (kids = dn.app r) ∧ Hid (dn.len = q) ∧ iv = .int .i64 q ∧ Hid (RowN wr (w.heap.size + 2) ((w.heap.size + 1) :: X) lv q (plL dn)) ∧ Hid (Bx wr w.heap.size (.int .i64 k) (.string l) (.slice A kids.len c) (.int .i64 mn) (.int .i64 mx)) ∧ Hid (Bx wr (w.heap.size + 1) (.int .i64 0) (.string ⟨#[]⟩) (.slice none 0 0) (.int .i64 0) (.int .i64 0)) ∧ Hid (Below w.heap.size w wr) ∧ Hid (w.heap.size + 2 ≤ wr.heap.size)) (fun _ iv _ => kids.len - (RowKit.intOf iv).toNat)
    case atStart => exact ⟨0, .nil, kids, Lib.hid rfl, Lib.hid rfl, rfl, HS0, HK0, HR0, HB0, HZ0⟩
    case round =>
      obtain ⟨q, dn, r, hk, hq, rfl, HS, HK, HR, HB, HZ⟩ := hrel
      clear HS0 HK0 HR0 HB0 HZ0
      have hlen := Lib.hid (show kids.len = q + r.len by rw [hk.out, Fo.app_len, hq.out])
      cases r with
      | cons k1 l1 d1 mn1 mx1 r1 =>
        have hlt : (q : Int) < kids.len := by have := hlen.out; simp only [Fo.len] at this; omega
        have hq0 : (0 : Int) ≤ q := by omega
        have hk2 : kids = dn.app (.cons k1 l1 d1 mn1 mx1 r1) := hk.out
        obtain ⟨b0, o0, rfl⟩ := at_shape HAT.out (by rw [hk2, Fo.app_len]; simp only [Fo.len]; omega)
        have h3 := (HF.out (vb u3 ++ (w.heap.size + 1) :: X) (fresh_of HS.out (by omega) (by omega))).below HB.out
        rw [hk2] at h3
        obtain ⟨K1, c1, hcel, hc3, hc4, hat1⟩ := h3.nth hq.out
        obtain ⟨e0, e1, e2, e3, e4⟩ := hcel
        have hsz : d1.sz < n ∧ d1.sz ≤ 60 := by
          have h5 := congrArg Fo.sz hk2
          rw [Fo.app_sz] at h5
          have h6 := HN.out
          simp only [Fo.sz] at h5
          omega
        have hvv : Val (.cons k1 l1 d1 mn1 mx1 r1) := Val.app (f := dn) (by have := HV.out; rwa [hk2] at this)
        have hq60 : q ≤ 60 := by omega
        have HCALL := Lib.hid (IH.out ⟨k1, l1, K1, c1, mn1, mx1, d1⟩ (vb u3 ++ (w.heap.size + 1) :: X) (wr.alloc (obj5 k1 l1 K1 d1.len c1 mn1 mx1)) hsz.1 hsz.2 hvv.single (Nd.ok.al ⟨hc3, hc4, hat1⟩ _) (fun x hx => by have := lt_of HS.out HX.out HZ.out x hx; simp; omega))
        unfold Nd.v at HCALL
        simp only at HCALL
        have HSB := Lib.hid (show Below wr.heap.size wr (wr.alloc (obj5 k1 l1 K1 d1.len c1 mn1 mx1)) from (Below.refl _ _).alloc (Nat.le_refl _) _)
        have HKK := Lib.hid (show plL (dn.app (.cons k1 l1 d1 mn1 mx1 .nil)) = (plL dn).app (pl1 k1 l1 (plL d1) mn1 mx1) by rw [plL_app]; congr 1; rw [plL]; exact Fo.app_nil _)
        have hkk := Lib.hid (show kids = (dn.app (.cons k1 l1 d1 mn1 mx1 .nil)).app r1 by rw [hk2, Fo.app_assoc]; rfl)
        have hqq := Lib.hid (show (dn.app (.cons k1 l1 d1 mn1 mx1 .nil)).len = q + 1 by rw [Fo.app_len, hq.out]; rfl)
        obtain ⟨⟨x0, x1, x2, x3, x4⟩, y0, y1, y2, y3, y4⟩ := bx_all (HK.out)
        clear h3 hat1 hvv hsz hk2
        go_wp2_with (first
          | (go_at_call 34; (with_reducible refine (HCALL.out).mono ?_); rintro e w2 ⟨⟨k2, l2, A2, c2, mn2, mx2, d2⟩, rfl, hfo2, hok2, hb2⟩; have HF2 := Lib.hid hfo2; have HO2 := Lib.hid hok2; have HB2 := Lib.hid hb2; clear hfo2 hok2 hb2; have HB2b := Lib.hid (HSB.out.trans (HB2.out.mono HSB.out.size)); have HS2 := Lib.hid (HS.out.below HB2b.out); have HZ2 := Lib.hid (Nat.le_trans HZ.out HB2b.out.size))
          | (obtain ⟨cs8, hown8, hcs8⟩ := HS2.out.own; have HCS8 := Lib.hid hcs8; have HOWN8 := Lib.hid (hown8.alloc (obj5 k2 l2 A2 d2.len c2 mn2 mx2)); clear hown8 hcs8; refine wpList_append_own_at _ rfl (.tmp 13) (.tmp 16) 22 rfl (w.heap.size + 2) 24 iP _ 5 64 Tryz.underlying22 hi hz0 hz1 hz2 rfl (by decide) u3 (q) cs8 rfl HOWN8.out ⟨(w2).heap.size, 0, none⟩ 1 1 [.int .i64 k2, .string l2, .slice A2 d2.len c2, .int .i64 mn2, .int .i64 mx2] rfl rfl (lit5 (w2) _ _ _ _ _ _) (csl_one _ _ _ _ _ _ _) (by unfold maxLen; omega) (by omega) (by have := HZ2.out; simp; omega) ?_; intro v8 w8 hown8 hgrow8 _ hat8; obtain ⟨HS8, HB8, HZ8⟩ := HS2.out.push_all k2 l2 A2 c2 mn2 mx2 d2 HO2.out HCS8.out HZ2.out hown8 hgrow8 hat8; clear hown8 hgrow8 hat8))
        exact ⟨⟨q + 1, _, r1, hkk, hqq, by go_num, Lib.hid (by rw [HKK.out, ← HF2.out]; exact HS8.out), Lib.hid ((HK.out.below HB2b.out).at_below HB8.out (by omega)), Lib.hid ((HR.out.below HB2b.out).at_below HB8.out (by omega)), Lib.hid (bt (bt HB.out HB2b.out HB.out.size) HB8.out (by omega)), Lib.hid (Nat.le_trans HZ2.out HZ8.out)⟩, by simp [RowKit.intOf] <;> omega⟩
      | nil =>
        have hlt : ¬ (q : Int) < kids.len := by have := hlen.out; simp only [Fo.len] at this; omega
        have hql : q = kids.len := by have := hlen.out; simp only [Fo.len] at this; omega
        have hdk : dn = kids := by have := hk.out; rw [Fo.app_nil] at this; exact this.symm
        subst hql
        subst hdk
        obtain ⟨⟨x0, x1, x2, x3, x4⟩, y0, y1, y2, y3, y4⟩ := bx_all (HK.out)
        obtain ⟨⟨z0, z1, z2, z3, z4⟩, t0, t1, t2, t3, t4⟩ := bx_all (HR.out)
        have hbz : w.heap.size + 2 ≤ wr.heap.size := HZ.out
        clear hq hk hlen
        obtain ⟨hk9, g2, g3, g4, g5, g6⟩ := HONE.out
        have HK9 : k = 1 ∨ k = 2 ∨ k = 3 ∨ k = 4 ∨ k = 5 ∨ k = 6 ∨ k = 7 ∨ k = 8 ∨ k = 9 := by omega
        rcases HK9 with rfl | rfl | rfl | rfl | rfl | rfl | rfl | rfl | rfl
        · clear g2 g3 g4 g5 g6
          go_wp2_with fail
          exact bodyPost_ret (v := (⟨1, ⟨#[]⟩, none, 0, 0, 0, .nil⟩ : Nd).v) (by simp [results, Tryz.results34, go_sem, z0, z1, z2, z3, z4, Fo.len]) rfl (made_w5 (a := ⟨1, ⟨#[]⟩, none, 0, 0, 0, .nil⟩) rfl ⟨Nat.le_refl _, Nat.zero_le _, trivial⟩ HB.out (by omega) _ _ _ _ _)
        · clear g2 g3 g4 g5 g6
          go_wp2_with fail
          exact bodyPost_ret (v := (⟨2, l, none, 0, 0, 0, .nil⟩ : Nd).v) (by simp [results, Tryz.results34, go_sem, z0, z1, z2, z3, z4, Fo.len]) rfl (made_w5 (a := ⟨2, l, none, 0, 0, 0, .nil⟩) rfl ⟨Nat.le_refl _, Nat.zero_le _, trivial⟩ HB.out (by omega) _ _ _ _ _)
        · clear g2 g3 g4 g5 g6
          go_wp2_with fail
          exact bodyPost_ret (v := (⟨3, l, none, 0, 0, 0, .nil⟩ : Nd).v) (by simp [results, Tryz.results34, go_sem, z0, z1, z2, z3, z4, Fo.len]) rfl (made_w5 (a := ⟨3, l, none, 0, 0, 0, .nil⟩) rfl ⟨Nat.le_refl _, Nat.zero_le _, trivial⟩ HB.out (by omega) _ _ _ _ _)
        · clear g2 g3 g4 g5 g6
          go_wp2_with (first | (go_at_call 64; (with_reducible refine (row_rowN 4 HS.out HX.out HZ.out).mono ?_); rintro e w9 ⟨⟨k9, l9, A9, c9, mn9, mx9, d9⟩, rfl, hfo9, hok9, hb9⟩; have HF9 := Lib.hid hfo9; have HO9 := Lib.hid hok9; have HB9 := Lib.hid hb9; clear hfo9 hok9 hb9; obtain ⟨⟨r0, r1, r2, r3, r4⟩, s0, s1, s2, s3, s4⟩ := bx_all (HR.out.below HB9.out)))
          exact bodyPost_ret (v := (⟨k9, l9, A9, c9, mn9, mx9, d9⟩ : Nd).v) (by simp [results, Tryz.results34, go_sem, r0, r1, r2, r3, r4]) rfl (made_w5 (HF9.out) HO9.out (bt HB.out HB9.out HB.out.size) (by omega) _ _ _ _ _)
        · clear g2 g3 g4 g5 g6
          go_wp2_with (first | (go_at_call 64; (with_reducible refine (row_rowN 5 HS.out HX.out HZ.out).mono ?_); rintro e w9 ⟨⟨k9, l9, A9, c9, mn9, mx9, d9⟩, rfl, hfo9, hok9, hb9⟩; have HF9 := Lib.hid hfo9; have HO9 := Lib.hid hok9; have HB9 := Lib.hid hb9; clear hfo9 hok9 hb9; obtain ⟨⟨r0, r1, r2, r3, r4⟩, s0, s1, s2, s3, s4⟩ := bx_all (HR.out.below HB9.out)))
          exact bodyPost_ret (v := (⟨k9, l9, A9, c9, mn9, mx9, d9⟩ : Nd).v) (by simp [results, Tryz.results34, go_sem, r0, r1, r2, r3, r4]) rfl (made_w5 (HF9.out) HO9.out (bt HB.out HB9.out HB.out.size) (by omega) _ _ _ _ _)
        · have hl1 : dn.len = 1 := g4 (by decide)
          clear g2 g3 g4 g5 g6
          obtain ⟨AR, cR, rfl, hR1, hR2, hR3⟩ := HS.out.at HX.out
          obtain ⟨k1, l1, d1, mn1, mx1, hL1⟩ := one_of (d := plL dn) (by rw [plL_len]; exact hl1)
          rw [hL1] at hR3
          obtain ⟨b1, o1, K1, c1, rfl, hR4, hcel, hR5, hR6, hR7, _⟩ := hR3
          obtain ⟨e0, e1, e2, e3, e4⟩ := hcel
          have HL1 := Lib.hid hL1
          have HOE := Lib.hid (show Nd.ok wr ((w.heap.size + 1) :: X) ⟨k1, l1, K1, c1, mn1, mx1, d1⟩ from ⟨hR5, hR6, hR7⟩)
          have HXL := Lib.hid (show ∀ x ∈ (w.heap.size + 1) :: X, x < wr.heap.size from fun x hx => Nat.lt_of_lt_of_le (HX.out x hx) HZ.out)
          rw [hl1] at *
          clear hL1 hR4 hR5 hR6 hR7
          have HST := Lib.hid (star_any ⟨k1, l1, K1, c1, mn1, mx1, d1⟩ ((w.heap.size + 1) :: X) wr HOE.out HXL.out)
          unfold Nd.v at HST
          simp only at HST
          go_wp2_with (first | (go_at_call 65; (with_reducible refine (HST.out).mono ?_); rintro e w9 ⟨⟨k9, l9, A9, c9, mn9, mx9, d9⟩, rfl, hfo9, hok9, hb9⟩; have HF9 := Lib.hid hfo9; have HO9 := Lib.hid hok9; have HB9 := Lib.hid hb9; clear hfo9 hok9 hb9; obtain ⟨⟨r0, r1, r2, r3, r4⟩, s0, s1, s2, s3, s4⟩ := bx_all (HR.out.below HB9.out)))
          exact bodyPost_ret (v := (⟨k9, l9, A9, c9, mn9, mx9, d9⟩ : Nd).v) (by simp [results, Tryz.results34, go_sem, r0, r1, r2, r3, r4]) rfl (made_w5 (HF9.out.trans (by rw [pl1]; simp [HL1.out, headF])) HO9.out (bt HB.out HB9.out HB.out.size) (by omega) _ _ _ _ _)
        · have hl1 : dn.len = 1 := g4 (by decide)
          clear g2 g3 g4 g5 g6
          obtain ⟨AR, cR, rfl, hR1, hR2, hR3⟩ := HS.out.at HX.out
          obtain ⟨k1, l1, d1, mn1, mx1, hL1⟩ := one_of (d := plL dn) (by rw [plL_len]; exact hl1)
          rw [hL1] at hR3
          obtain ⟨b1, o1, K1, c1, rfl, hR4, hcel, hR5, hR6, hR7, _⟩ := hR3
          obtain ⟨e0, e1, e2, e3, e4⟩ := hcel
          have HL1 := Lib.hid hL1
          have HOE := Lib.hid (show Nd.ok wr ((w.heap.size + 1) :: X) ⟨k1, l1, K1, c1, mn1, mx1, d1⟩ from ⟨hR5, hR6, hR7⟩)
          have HXL := Lib.hid (show ∀ x ∈ (w.heap.size + 1) :: X, x < wr.heap.size from fun x hx => Nat.lt_of_lt_of_le (HX.out x hx) HZ.out)
          rw [hl1] at *
          clear hL1 hR4 hR5 hR6 hR7
          have HST := Lib.hid (fun (w5 : World) (hb : Below wr.heap.size wr w5) => star_any ⟨k1, l1, K1, c1, mn1, mx1, d1⟩ ((w.heap.size + 1) :: X) w5 (HOE.out.below hb) (fun x hx => Nat.lt_of_lt_of_le (HXL.out x hx) hb.size))
          unfold Nd.v at HST
          simp only at HST
          have hb1 : b1 < wr.heap.size := cell_lt e0
          have HEC := Lib.hid (show ∀ w5, Below wr.heap.size wr w5 → Cel w5 b1 o1 k1 l1 K1 d1.len c1 mn1 mx1 from fun w5 hb => Cel.keep ⟨e0, e1, e2, e3, e4⟩ (hb.block b1 hb1))
          obtain ⟨j0, j1, j2, j3, j4⟩ := HEC.out wr.drew (Below.refl _ _).drew
          go_wp2_with fail
          go_region_law (first
            | (go_simp; go_at_call 65; (with_reducible refine (HST.out _ (Below.refl _ _).drew).mono ?_); rintro e w2 ⟨⟨k2, l2, A2, c2, mn2, mx2, d2⟩, rfl, hfo2, hok2, hb2⟩; have HF2 := Lib.hid hfo2; have HO2 := Lib.hid hok2; have HB2 := Lib.hid hb2; clear hfo2 hok2 hb2; have HB2b := Lib.hid (show Below wr.heap.size wr w2 from (Below.refl _ _).drew.trans HB2.out); obtain ⟨f0, f1, f2, f3, f4⟩ := HEC.out w2 HB2b.out; have HTW := Lib.hid (two_any 4 ⟨k1, l1, K1, c1, mn1, mx1, d1⟩ ⟨k2, l2, A2, c2, mn2, mx2, d2⟩ ((w.heap.size + 1) :: X) w2 (HOE.out.below HB2b.out) HO2.out (fun x hx => Nat.lt_of_lt_of_le (HXL.out x hx) HB2b.out.size)))
            | (go_simp; go_at_call 66; (with_reducible refine (HTW.out).mono ?_); rintro e w9 ⟨⟨k9, l9, A9, c9, mn9, mx9, d9⟩, rfl, hfo9, hok9, hb9⟩; have HF9 := Lib.hid hfo9; have HO9 := Lib.hid hok9; have HB9 := Lib.hid hb9; clear hfo9 hok9 hb9; obtain ⟨⟨r0, r1, r2, r3, r4⟩, s0, s1, s2, s3, s4⟩ := bx_all ((HR.out.below HB2b.out).below HB9.out); obtain ⟨g0, g1, g2, g3, g4⟩ := HEC.out w9 (HB2b.out.trans (HB9.out.mono HB2b.out.size))))
          all_goals go_wp2_with fail
          all_goals exact bodyPost_ret (v := (⟨k9, l9, A9, c9, mn9, mx9, d9⟩ : Nd).v) (by simp [results, Tryz.results34, go_sem, r0, r1, r2, r3, r4]) rfl (made_w5 (HF9.out.trans (by rw [HF2.out, pl1]; simp [HL1.out, headF])) HO9.out (bt (bt HB.out HB2b.out HB.out.size) HB9.out (Nat.le_trans HB.out.size HB2b.out.size)) (by omega) _ _ _ _ _)
        · have hl1 : dn.len = 1 := g4 (by decide)
          clear g2 g3 g4 g5 g6
          obtain ⟨AR, cR, rfl, hR1, hR2, hR3⟩ := HS.out.at HX.out
          obtain ⟨k1, l1, d1, mn1, mx1, hL1⟩ := one_of (d := plL dn) (by rw [plL_len]; exact hl1)
          rw [hL1] at hR3
          obtain ⟨b1, o1, K1, c1, rfl, hR4, hcel, hR5, hR6, hR7, _⟩ := hR3
          obtain ⟨e0, e1, e2, e3, e4⟩ := hcel
          have HL1 := Lib.hid hL1
          have HOE := Lib.hid (show Nd.ok wr ((w.heap.size + 1) :: X) ⟨k1, l1, K1, c1, mn1, mx1, d1⟩ from ⟨hR5, hR6, hR7⟩)
          have HXL := Lib.hid (show ∀ x ∈ (w.heap.size + 1) :: X, x < wr.heap.size from fun x hx => Nat.lt_of_lt_of_le (HX.out x hx) HZ.out)
          rw [hl1] at *
          clear hL1 hR4 hR5 hR6 hR7
          have HST := Lib.hid (maybe_any ⟨k1, l1, K1, c1, mn1, mx1, d1⟩ ((w.heap.size + 1) :: X) wr HOE.out HXL.out)
          unfold Nd.v at HST
          simp only at HST
          go_wp2_with (first | (go_at_call 67; (with_reducible refine (HST.out).mono ?_); rintro e w9 ⟨⟨k9, l9, A9, c9, mn9, mx9, d9⟩, rfl, hfo9, hok9, hb9⟩; have HF9 := Lib.hid hfo9; have HO9 := Lib.hid hok9; have HB9 := Lib.hid hb9; clear hfo9 hok9 hb9; obtain ⟨⟨r0, r1, r2, r3, r4⟩, s0, s1, s2, s3, s4⟩ := bx_all (HR.out.below HB9.out)))
          exact bodyPost_ret (v := (⟨k9, l9, A9, c9, mn9, mx9, d9⟩ : Nd).v) (by simp [results, Tryz.results34, go_sem, r0, r1, r2, r3, r4]) rfl (made_w5 (HF9.out.trans (by rw [pl1]; simp [HL1.out, headF])) HO9.out (bt HB.out HB9.out HB.out.size) (by omega) _ _ _ _ _)
        · have hl1 : dn.len = 1 := g4 (by decide)
          have hmm := g6 rfl
          clear g2 g3 g4 g5 g6
          obtain ⟨AR, cR, rfl, hR1, hR2, hR3⟩ := HS.out.at HX.out
          obtain ⟨k1, l1, d1, mn1, mx1, hL1⟩ := one_of (d := plL dn) (by rw [plL_len]; exact hl1)
          rw [hL1] at hR3
          obtain ⟨b1, o1, K1, c1, rfl, hR4, hcel, hR5, hR6, hR7, _⟩ := hR3
          obtain ⟨e0, e1, e2, e3, e4⟩ := hcel
          have HL1 := Lib.hid hL1
          have HOE := Lib.hid (show Nd.ok wr ((w.heap.size + 1) :: X) ⟨k1, l1, K1, c1, mn1, mx1, d1⟩ from ⟨hR5, hR6, hR7⟩)
          have HXL := Lib.hid (show ∀ x ∈ (w.heap.size + 1) :: X, x < wr.heap.size from fun x hx => Nat.lt_of_lt_of_le (HX.out x hx) HZ.out)
          rw [hl1] at *
          clear hL1 hR4 hR5 hR6 hR7
          have HST := Lib.hid (rep_any ⟨k1, l1, K1, c1, mn1, mx1, d1⟩ mn mx ((w.heap.size + 1) :: X) wr.drew (HOE.out.below (Below.refl _ _).drew) HXL.out hmm.1 hmm.2.1 (by omega))
          have HR5 := Lib.hid (HR.out.below (Below.refl _ wr).drew)
          have HB5 := Lib.hid (HB.out.trans ((Below.refl _ wr).drew.mono HB.out.size))
          clear hmm
          unfold Nd.v at HST
          simp only at HST
          go_wp2_with fail
          go_still_tail 7, (by kernel_rfl)
          change wpList _ _ _ _ _ wr.drew
          have hz5 : w.heap.size + 2 ≤ wr.drew.heap.size := HZ.out
          generalize wr.drew = w5 at *
          go_wp2_with (first | (go_at_call 68; (with_reducible refine (HST.out).mono ?_); rintro e w9 ⟨⟨k9, l9, A9, c9, mn9, mx9, d9⟩, rfl, hfo9, hok9, hb9⟩; have HF9 := Lib.hid hfo9; have HO9 := Lib.hid hok9; have HB9 := Lib.hid hb9; clear hfo9 hok9 hb9; obtain ⟨⟨r0, r1, r2, r3, r4⟩, s0, s1, s2, s3, s4⟩ := bx_all (HR5.out.below HB9.out)))
          exact bodyPost_ret (v := (⟨k9, l9, A9, c9, mn9, mx9, d9⟩ : Nd).v) (by simp [results, Tryz.results34, go_sem, r0, r1, r2, r3, r4]) rfl (made_w5 (HF9.out.trans (by rw [pl1]; simp [HL1.out, headF])) HO9.out (bt HB5.out HB9.out HB5.out.size) (by omega) _ _ _ _ _)
end Go.Proofs.YtpaehicfndkliaaGreatDoor.De
