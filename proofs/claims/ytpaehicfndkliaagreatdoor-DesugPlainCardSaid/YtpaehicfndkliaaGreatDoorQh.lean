/- The walk of the reader's 'rep'. Condition: the reader lies in memory. -/
import Derived.Test.YtpaehicfndkliaaGreatDoorQg
namespace Go.Proofs.YtpaehicfndkliaaGreatDoor.Pa
open Go.RowKit Go.Lib Na Go.PN

abbrev cells5 (k : Int) (l : ByteArray) (A : Option Addr) (n c : Nat) (mn mx : Int) : Obj := .cells #[.int .i64 k, .string l, .slice A n c, .int .i64 mn, .int .i64 mx] 24
abbrev zero5 : Obj := .cells #[.int .i64 0, .string ⟨#[]⟩, .slice none 0 0, .int .i64 0, .int .i64 0] 24
abbrev repW (w : World) (k : Int) (l : ByteArray) (A : Option Addr) (n c : Nat) (mn mx : Int) : World :=
  (((w.alloc (cells5 k l A n c mn mx)).alloc zero5).alloc (cells5 k l A n c mn mx)).alloc (.cells #[.int .i64 9, .string ⟨#[]⟩, .slice (some ⟨w.heap.size + 1 + 1, 0, none⟩) 1 1, .int .i64 0, .int .i64 0] 24)
set_option maxRecDepth 100000 in
set_option maxHeartbeats 4000000 in
theorem rep_rd (R : Nat) (s : ByteArray) (d : Int) (t : List UInt8) (a : Nd) (w : World) (h : RS w R s (pos s t) d) (ht : Sf s t) (hm : s.size ≤ 1000000) (hE : Er w R) (X : List Nat) (hX : R ∈ X) (hXs : ∀ x ∈ X, x < w.heap.size) (ha : a.ok w X) :
    Calls Tryz.prog 119 #[.pointer (some ⟨R, 0, none⟩), a.v] w (RdP R X s d (repR NP (a.fo .nil) t) w) := by
  obtain ⟨k, l, A, c, mn, mx, kids⟩ := a
  have hRlt := h.lt
  have HXS := Lib.hid hXs
  clear hXs
  have hK4 : Kp [R] w (repW w k l A kids.len c mn mx) := ((((Kp.refl _ _).alloc _).alloc _).alloc _).alloc _
  have HR4 := Lib.hid (show RS (repW w k l A kids.len c mn mx) R s (pos s t) d from (((h.al _).al _).al _).al _)
  have HE4 := Lib.hid (hE.keep hK4)
  have hE0 := Lib.hid hE
  have hne1 : w.heap.size + 1 ∉ [R] := by simp; omega
  have hne2 : w.heap.size + 1 + 1 ∉ [R] := by simp; omega
  have hne3 : w.heap.size + 1 + 1 + 1 ∉ [R] := by simp; omega
  have HZ4 := Lib.hid (show Bx (repW w k l A kids.len c mn mx) (w.heap.size + 1) (.int .i64 0) (.string ⟨#[]⟩) (.slice none 0 0) (.int .i64 0) (.int .i64 0) from by
    have := ((Bx.new (w.alloc (cells5 k l A kids.len c mn mx)) (.int .i64 0) (.string ⟨#[]⟩) (.slice none 0 0) (.int .i64 0) (.int .i64 0) 24).al (cells5 k l A kids.len c mn mx)).al (.cells #[.int .i64 9, .string ⟨#[]⟩, .slice (some ⟨w.heap.size + 1 + 1, 0, none⟩) 1 1, .int .i64 0, .int .i64 0] 24)
    simpa using this)
  have HL4 := Lib.hid (show Bx (repW w k l A kids.len c mn mx) (w.heap.size + 1 + 1) (.int .i64 k) (.string l) (.slice A kids.len c) (.int .i64 mn) (.int .i64 mx) from by
    have := (Bx.new ((w.alloc (cells5 k l A kids.len c mn mx)).alloc zero5) (.int .i64 k) (.string l) (.slice A kids.len c) (.int .i64 mn) (.int .i64 mx) 24).al (.cells #[.int .i64 9, .string ⟨#[]⟩, .slice (some ⟨w.heap.size + 1 + 1, 0, none⟩) 1 1, .int .i64 0, .int .i64 0] 24)
    simpa using this)
  have HO4 := Lib.hid (show Bx (repW w k l A kids.len c mn mx) (w.heap.size + 1 + 1 + 1) (.int .i64 9) (.string ⟨#[]⟩) (.slice (some ⟨w.heap.size + 1 + 1, 0, none⟩) 1 1) (.int .i64 0) (.int .i64 0) from by
    have := Bx.new (((w.alloc (cells5 k l A kids.len c mn mx)).alloc zero5).alloc (cells5 k l A kids.len c mn mx)) (.int .i64 9) (.string ⟨#[]⟩) (.slice (some ⟨w.heap.size + 1 + 1, 0, none⟩) 1 1) (.int .i64 0) (.int .i64 0) 24
    simpa using this)
  have HA4 := Lib.hid (hK4.nd2 (Y := (w.heap.size + 1) :: (w.heap.size + 1 + 1 + 1) :: X) (by simp [hX]) (ha.grow2 (by intro y hy; rcases List.mem_cons.1 hy with e | hy; exact Or.inr (by omega); rcases List.mem_cons.1 hy with e | hy; exact Or.inr (by omega); exact Or.inl hy)))
  have HK4 := Lib.hid hK4
  have HM := Lib.hid hm
  have hs1 := numR_suf t
  obtain ⟨m, u1, hn1⟩ : ∃ m u1, numR t = (m, u1) := ⟨_, _, rfl⟩
  have HN1 := Lib.hid (fun (w1 : World) (h1 : RS w1 R s (pos s t) d) (h2 : Er w1 R) => num_rd2 R s d t w1 h1 ht hm h2)
  rw [hn1] at HN1 hs1
  have hf1 := ht.suf hs1
  have HI1 := Lib.hid (fun (w1 : World) (h1 : RS w1 R s (pos s u1) d) => is_rd R s d 44 44 rfl u1 w1 h1 hf1 hm)
  unfold Nd.v Nd.fo
  simp only
  clear h hE ha hK4
  cases hh : hd 44 u1
  · have HP := Lib.hid (show ∀ p, repR NP p t = none from fun p => repR_no1 (N := NP) (congrArg some hn1) hh)
    rw [HP.out]
    rw [hh] at HI1
    simp only [Bool.false_eq_true, if_false] at HI1
    have HB := Lib.hid (fun (w1 : World) (h1 : RS w1 R s (pos s u1) d) => bad_any R s _ d w1 h1)
    clear hh hs1 hn1
    unfold RdP
    simp only
    go_enter Tryz.func119, Tryz.ntmps119
    go_wp2_with (first
      | (go_at_call 126; (with_reducible refine (HN1.out _ HR4.out HE4.out).mono ?_); rintro e w3 ⟨rfl, hk3, hr3⟩; have HO3 := Lib.hid (HO4.out.kp hk3 hne3); have HR3 := Lib.hid (hr3.far (p := ⟨w.heap.size + 1 + 1 + 1, 3, none⟩) (by show w.heap.size + 1 + 1 + 1 ≠ R; omega) (.int .i64 m)); have q3 := HO3.out.c3; have q4 := HO3.out.f3; have hK3 := Lib.hid ((HK4.out.trans hk3).set (p := ⟨w.heap.size + 1 + 1 + 1, 3, none⟩) (Or.inr (by show w.heap.size ≤ w.heap.size + 1 + 1 + 1; omega)) (.int .i64 m)))
      | (go_at_call 117; (with_reducible refine (HI1.out _ HR3.out).mono ?_); rintro e w4 ⟨rfl, hk4, hr4⟩)
      | (go_at_call 106; (with_reducible refine (HB.out _ hr4).mono ?_); rintro e w' ⟨b, x, rfl, hl1, hl2, hl3, hl4⟩))
    exact ⟨rfl, Left.after (hK3.out.trans hk4) ⟨b, x, rfl, hl1, hl2, hl3, hl4⟩⟩
  · obtain ⟨u2, rfl⟩ := hd_true hh
    have hf2 := hf1.next.1
    rw [hh] at HI1
    simp only [if_true, List.tail_cons] at HI1
    have hs2 := numR_suf u2
    obtain ⟨x, u3, hn2⟩ : ∃ m u, numR u2 = (m, u) := ⟨_, _, rfl⟩
    have HN2 := Lib.hid (fun (w1 : World) (h1 : RS w1 R s (pos s u2) d) (h2 : Er w1 R) => num_rd2 R s d u2 w1 h1 hf2 hm h2)
    rw [hn2] at HN2 hs2
    have hf3 := hf2.suf hs2
    have HI2 := Lib.hid (fun (w1 : World) (h1 : RS w1 R s (pos s u3) d) => is_rd R s d 125 125 rfl u3 w1 h1 hf3 hm)
    -- a store into the new path
    have HST := Lib.hid (fun (w1 w2 : World) (hk : Kp [R] w1 w2) (h4 : w.heap.size + 1 + 1 + 1 < w1.heap.size) (j : Nat) (y : Int) => show Kp [R] w w1 → Kp [R] w (w2.setCell ⟨w.heap.size + 1 + 1 + 1, j, none⟩ (.int .i64 y)) from fun h0 => (h0.trans hk).set (p := ⟨w.heap.size + 1 + 1 + 1, j, none⟩) (Or.inr (by show w.heap.size ≤ w.heap.size + 1 + 1 + 1; omega)) (.int .i64 y))
    have HEW := hE0
    have HCH := Lib.hid (fun (w1 w3 w4 w5 w6 : World) (h3 : Kp [R] w1 w3) (h4 : Kp [R] (w3.setCell ⟨w.heap.size + 1 + 1 + 1, 3, none⟩ (.int .i64 m)) w4) (h5 : Kp [R] w4 w5) (h6 : Kp [R] (w5.setCell ⟨w.heap.size + 1 + 1 + 1, 4, none⟩ (.int .i64 x)) w6) (b : Nat) (v0 v1 v2 v3 v4 : Value) (_ _ : Int) (hb : b ∉ [R]) (hb2 : w.heap.size + 1 + 1 + 1 ≠ b) (h : Bx w1 b v0 v1 v2 v3 v4) => (((((h.kp h3 hb).far (p := ⟨w.heap.size + 1 + 1 + 1, 3, none⟩) hb2 (.int .i64 m)).kp h4 hb).kp h5 hb).far (p := ⟨w.heap.size + 1 + 1 + 1, 4, none⟩) hb2 (.int .i64 x)).kp h6 hb)
    cases hh2 : hd 125 u3
    · have HP := Lib.hid (show ∀ p, repR NP p t = none from fun p => repR_no2 (N := NP) (congrArg some hn1) (congrArg some hn2) hh2)
      rw [HP.out]
      rw [hh2] at HI2
      simp only [Bool.false_eq_true, if_false] at HI2
      have HB := Lib.hid (fun (w1 : World) (h1 : RS w1 R s (pos s u3) d) => bad_any R s _ d w1 h1)
      clear hh hh2 hs1 hn1 hn2 hs2
      unfold RdP
      simp only
      go_enter Tryz.func119, Tryz.ntmps119
      go_wp2_with (first
        | (go_at_call 126; (with_reducible refine (HN1.out _ HR4.out HE4.out).mono ?_); rintro e w3 ⟨rfl, hk3, hr3⟩; have HO3 := Lib.hid ((HO4.out.kp hk3 hne3).set3 m); have q3 := (HO4.out.kp hk3 hne3).c3; have q4 := (HO4.out.kp hk3 hne3).f3; have HR3 := Lib.hid (hr3.far (p := ⟨w.heap.size + 1 + 1 + 1, 3, none⟩) (by show w.heap.size + 1 + 1 + 1 ≠ R; omega) (.int .i64 m)); have hK3 := Lib.hid (HST.out _ w3 hk3 HO4.out.lt 3 m HK4.out))
        | (go_at_call 117; (with_reducible refine (HI1.out _ HR3.out).mono ?_); rintro e w4 ⟨rfl, hk4, hr4⟩; clear q3 q4; have HO4' := Lib.hid (HO3.out.kp hk4 hne3); have hK4 := Lib.hid (hK3.out.trans hk4); have hE4 := Lib.hid (HEW.out.keep hK4.out))
        | (go_at_call 126; (with_reducible refine (HN2.out _ hr4 hE4.out).mono ?_); rintro e w5 ⟨rfl, hk5, hr5⟩; have HO5 := Lib.hid ((HO4'.out.kp hk5 hne3).set4 x); have q3 := (HO4'.out.kp hk5 hne3).c4; have q4 := (HO4'.out.kp hk5 hne3).f4; have HR5 := Lib.hid (hr5.far (p := ⟨w.heap.size + 1 + 1 + 1, 4, none⟩) (by show w.heap.size + 1 + 1 + 1 ≠ R; omega) (.int .i64 x)); have hK5 := Lib.hid (HST.out _ w5 hk5 HO4'.out.lt 4 x hK4.out))
        | (go_at_call 117; (with_reducible refine (HI2.out _ HR5.out).mono ?_); rintro e w6 ⟨rfl, hk6, hr6⟩; clear q3 q4)
        | (go_at_call 106; (with_reducible refine (HB.out _ hr6).mono ?_); rintro e w' ⟨b, x, rfl, hl1, hl2, hl3, hl4⟩))
      exact ⟨rfl, Left.after (hK5.out.trans hk6) ⟨b, x, rfl, hl1, hl2, hl3, hl4⟩⟩
    · obtain ⟨u4, rfl⟩ := hd_true hh2
      have HP := Lib.hid (show ∀ p, repR NP p t = some (one1 9 [] p m x, u4) from fun p => repR_ok (N := NP) (congrArg some hn1) (congrArg some hn2))
      rw [HP.out]
      rw [hh2] at HI2
      simp only [if_true, List.tail_cons] at HI2
      clear hh hh2 hs1 hn1 hn2 hs2
      unfold RdP
      simp only
      go_enter Tryz.func119, Tryz.ntmps119
      go_wp2_with (first
        | (go_at_call 126; (with_reducible refine (HN1.out _ HR4.out HE4.out).mono ?_); rintro e w3 ⟨rfl, hk3, hr3⟩; have HO3 := Lib.hid ((HO4.out.kp hk3 hne3).set3 m); have q3 := (HO4.out.kp hk3 hne3).c3; have q4 := (HO4.out.kp hk3 hne3).f3; have HR3 := Lib.hid (hr3.far (p := ⟨w.heap.size + 1 + 1 + 1, 3, none⟩) (by show w.heap.size + 1 + 1 + 1 ≠ R; omega) (.int .i64 m)); have hK3 := Lib.hid (HST.out _ w3 hk3 HO4.out.lt 3 m HK4.out))
        | (go_at_call 117; (with_reducible refine (HI1.out _ HR3.out).mono ?_); rintro e w4 ⟨rfl, hk4, hr4⟩; clear q3 q4; have HO4' := Lib.hid (HO3.out.kp hk4 hne3); have hK4 := Lib.hid (hK3.out.trans hk4); have hE4 := Lib.hid (HEW.out.keep hK4.out))
        | (go_at_call 126; (with_reducible refine (HN2.out _ hr4 hE4.out).mono ?_); rintro e w5 ⟨rfl, hk5, hr5⟩; have HO5 := Lib.hid ((HO4'.out.kp hk5 hne3).set4 x); have q3 := (HO4'.out.kp hk5 hne3).c4; have q4 := (HO4'.out.kp hk5 hne3).f4; have HR5 := Lib.hid (hr5.far (p := ⟨w.heap.size + 1 + 1 + 1, 4, none⟩) (by show w.heap.size + 1 + 1 + 1 ≠ R; omega) (.int .i64 x)); have hK5 := Lib.hid (HST.out _ w5 hk5 HO4'.out.lt 4 x hK4.out))
        | (go_at_call 117; (with_reducible refine (HI2.out _ HR5.out).mono ?_); rintro e w6 ⟨rfl, hk6, hr6⟩; clear q3 q4; have HO6 := Lib.hid (HO5.out.kp hk6 hne3); have hK6 := Lib.hid (hK5.out.trans hk6); have HZ6 := Lib.hid (HCH.out _ w3 w4 w5 w6 hk3 hk4 hk5 hk6 _ _ _ _ _ _ m x hne1 (by omega) HZ4.out); have HL6 := Lib.hid (HCH.out _ w3 w4 w5 w6 hk3 hk4 hk5 hk6 _ _ _ _ _ _ m x hne2 (by omega) HL4.out); have o0 := HO6.out.c0; have o1 := HO6.out.c1; have o2 := HO6.out.c2; have o3 := HO6.out.c3; have o4 := HO6.out.c4; have z0 := HZ6.out.c0; have z1 := HZ6.out.c1; have z2 := HZ6.out.c2; have z3 := HZ6.out.c3; have z4 := HZ6.out.c4; have y0 := HZ6.out.f0; have y1 := HZ6.out.f1; have y2 := HZ6.out.f2; have y3 := HZ6.out.f3; have y4 := HZ6.out.f4))
      have hA6 : Nd.ok w6 ((w.heap.size + 1) :: (w.heap.size + 1 + 1 + 1) :: X) ⟨k, l, A, c, mn, mx, kids⟩ :=
        hk6.nd2 (by simp [hX]) (((hk5.nd2 (by simp [hX]) (hk4.nd2 (by simp [hX]) ((hk3.nd2 (by simp [hX]) HA4.out).set (p := ⟨w.heap.size + 1 + 1 + 1, 3, none⟩) (by simp) (.int .i64 m))))).set (p := ⟨w.heap.size + 1 + 1 + 1, 4, none⟩) (by simp) (.int .i64 x))
      have HT6 := (at_one (HL6.out.far5 (b2 := w.heap.size + 1) (v0 := .int .i64 9) (v1 := .string ⟨#[]⟩) (v2 := .slice (some ⟨w.heap.size + 1 + 1, 0, none⟩) 1 1) (v3 := .int .i64 m) (v4 := .int .i64 x) (by omega)) (hA6.w5 (b := w.heap.size + 1) (by simp)) (by intro hx; rcases List.mem_cons.1 hx with e | hx; omega; rcases List.mem_cons.1 hx with e | hx; omega; have := HXS.out _ hx; omega)).less (Y := X) (by intro y hy; simp [hy])
      exact bodyPost_ret (v := .agg #[.int .i64 9, .string ⟨#[]⟩, .slice (some ⟨w.heap.size + 1 + 1, 0, none⟩) 1 1, .int .i64 m, .int .i64 x]) (by simp [results, Tryz.results119, go_sem, z0, z1, z2, z3, z4]) rfl ⟨⟨9, ⟨#[]⟩, some ⟨w.heap.size + 1 + 1, 0, none⟩, 1, m, x, .cons k l kids mn mx .nil⟩, rfl, rfl, ⟨by simp [Fo.len], by simp, HT6⟩, (hK6.out).w5 (Or.inr (by omega)), hr6.w5 (by omega)⟩
end Go.Proofs.YtpaehicfndkliaaGreatDoor.Pa
