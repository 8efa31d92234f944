
/- The law DesugAsks, walked. Condition: the path can be read; the library's two errors can be read. -/
import Derived.Test.YtpaehicfndkliaaGreatDoorEa
import Derived.Test.YtpaehicfndkliaaGreatDoorDr
import Derived.Test.YtpaehicfndkliaaGreatDoorDs
import Derived.Test.YtpaehicfndkliaaGreatDoorGc
import Derived.Test.YtpaehicfndkliaaGreatDoorHa
import Derived.Test.YtpaehicfndkliaaGreatDoorHg
import Derived.Test.YtpaehicfndkliaaGreatDoorHl
import Derived.Test.YtpaehicfndkliaaGreatDoorHm
import Derived.Deep.RegionHeld3
namespace Go.Proofs.YtpaehicfndkliaaGreatDoor.De
open Go.RowKit Go.Lib Na Go.PN Pa

theorem may_dpt {f : Fo} {at_ : Int} (h : mayL f at_ = true) : dpt f = 0 ∨ at_ + dpt f ≤ 401 := by
  induction f generalizing at_ with
  | nil => exact Or.inl rfl
  | cons k l d mn mx r ih1 ih2 =>
    rw [mayL, Bool.and_eq_true, Bool.and_eq_true, Bool.and_eq_true] at h
    obtain ⟨⟨⟨_, h1⟩, h2⟩, h3⟩ := h
    have h4 := of_decide_eq_true h1
    have h5 := ih1 h2
    have h6 := ih2 h3
    have := dpt_ge d
    have := dpt_ge r
    rw [dpt]
    right
    omega
theorem known_dpt {k : Int} {l : ByteArray} {d : Fo} {mn mx : Int} (h : knownB k l d mn mx = true) : dpt (.cons k l d mn mx .nil) ≤ 401 := by
  unfold knownB at h
  rw [Bool.or_eq_true] at h
  rcases h with h | h
  · obtain ⟨_, h2, _⟩ := check_zero (of_decide_eq_true h)
    unfold dp at h2
    rw [if_neg (by decide)] at h2
    have := dpt_lp d 1 0 (by decide) (by decide) (by omega)
    rw [dpt, dpt]
    have := dpt_ge d
    omega
  · have := may_dpt (show mayL (.cons k l d mn mx .nil) 1 = true from h)
    omega
theorem turnR_dpt (k : Int) (l : ByteArray) (d : Fo) (mn mx : Int) : dpt (turnR k l d mn mx) ≤ 401 := by
  unfold turnR
  split
  · rename_i h
    have h1 := known_dpt h
    rw [← dpt_tu] at h1
    exact h1
  · show dpt zerF ≤ 401
    decide
theorem plainR_dpt (k : Int) (l : ByteArray) (d : Fo) (mn mx : Int) : dpt (plainR k l d mn mx).1 ≤ 401 := by
  unfold plainR
  split
  · rename_i h
    obtain ⟨h1, h2⟩ := plain_facts h
    have := h1.dp
    show dpt (pl1 k l (plL d) mn mx) ≤ 401
    omega
  · show dpt zerF ≤ 401
    decide
theorem labR_len {k : Int} {l : ByteArray} {d : Fo} {mn mx : Int} (h : (labF (.cons k l d mn mx .nil)).length ≤ 1000000) : (labR k l d mn mx).length ≤ 1000000 := by
  unfold labR
  split
  · have := lbl_len ((labF (.cons k l d mn mx .nil)).map bl)
    rw [List.length_map] at this
    omega
  · exact Nat.zero_le _
set_option maxRecDepth 100000 in
set_option maxHeartbeats 16000000 in
theorem desugAsks_law (a : Nd) (W0 : World) (hG : ErG W0) (h : a.ok W0 []) (hbl : Bd (a.fo .nil) ∧ Lb (a.fo .nil)) : Calls Tryz.prog 5 #[a.v] W0 fun e w' => e = .returned (.bool true) ∧ Below W0.heap.size W0 w' := by
  obtain ⟨hbd, hlb⟩ := hbl
  have HA := Lib.hid (fun (w1 : World) (hb : Below W0.heap.size W0 w1) => awake_any w1 (hG.below hb))
  have HSM := Lib.hid (fun (w1 : World) (hb : Below W0.heap.size W0 w1) => small_wgt a [] w1 (h.below hb) hlb)
  have HPL := Lib.hid (fun (w1 : World) (hb : Below W0.heap.size W0 w1) => Plain_any a [] w1 (h.below hb) hbd (fun x hx => by cases hx))
  have HPR := Lib.hid (fun (hz : a.kids.sz ≤ 300) (w1 : World) (hb : Below W0.heap.size W0 w1) => rPlain_any a [] w1 (h.below hb) hlb (by omega) (fun x hx => by cases hx))
  have HB := Lib.hid ((Below.refl _ W0).alloc (Nat.le_refl _) (obj5 a.k a.l a.A a.kids.len a.c a.mn a.mx))
  have HY := Lib.hid (Bx.new W0 (.int .i64 a.k) (.string a.l) (.slice a.A a.kids.len a.c) (.int .i64 a.mn) (.int .i64 a.mx) 24)
  have HOK := Lib.hid h
  have HBD := Lib.hid hbd
  have HLB := Lib.hid hlb
  have HSZ := Lib.hid (fun (hw : wgt (a.fo .nil) ≤ 300) => (show a.kids.sz ≤ 300 by have := sz_wgt (a.fo .nil); unfold Nd.fo at this; simp only [Fo.sz] at this; unfold Nd.fo at hw; omega))
  unfold Nd.v at HSM HPL HPR ⊢
  clear hG h hbd hlb
  generalize wgt (a.fo .nil) = wg at *
  go_enter Tryz.func5, Tryz.ntmps5
  go_wp2_with (go_at_call 7; (with_reducible refine (HSM.out _ HB.out).mono ?_); rintro e w1 ⟨⟨B, rfl, hB⟩, hb1⟩; have HWG := Lib.hid hB; have HB1 := Lib.hid (bt HB.out hb1 HB.out.size); have HY1 := Lib.hid (HY.out.below hb1); clear hb1 hB; refine Hid.out ?_)
  refine Lib.hid ?_
  obtain ⟨⟨x0, x1, x2, x3, x4⟩, y0, y1, y2, y3, y4⟩ := bx_all HY1.out
  cases B
  · go_wp2_with (go_at_call 10; (with_reducible refine (HA.out _ HB1.out).mono ?_); rintro e w2 ⟨rfl, hb2⟩; have HB2 := Lib.hid (bt HB1.out hb2 HB1.out.size); clear hb2)
    go_ret
    exact ⟨rfl, HB2.out⟩
  have HZ := Lib.hid (HSZ.out (HWG.out rfl))
  have HPR1 := Lib.hid (HPR.out HZ.out)
  clear HSZ HWG HPR
  have HDP := Lib.hid (plainR_dpt a.k a.l a.kids a.mn a.mx)
  obtain ⟨F, E, hFE⟩ : ∃ F E, plainR a.k a.l a.kids a.mn a.mx = (F, E) := ⟨_, _, rfl⟩
  rw [hFE] at HPL HPR1 HDP
  clear hFE
  go_wp2_with (go_at_call 11; (with_reducible refine (HPL.out _ HB1.out).mono ?_); rintro e w3 ⟨⟨k2, l2, A2, c2, mn2, mx2, d2⟩, rfl, hfo2, hok2, hb3⟩; have HF2 := Lib.hid hfo2; have HO2 := Lib.hid hok2; have HB3 := Lib.hid (bt HB1.out hb3 HB1.out.size); have HBC3 := Lib.hid hb3; have HY3 := Lib.hid (HY1.out.below hb3); clear hfo2 hok2 hb3; refine Hid.out ?_)
  refine Lib.hid ?_
  have HYp := Lib.hid (HY3.out.al (obj5 k2 l2 A2 d2.len c2 mn2 mx2))
  have HTx := Lib.hid (Bx.new w3 (.int .i64 k2) (.string l2) (.slice A2 d2.len c2) (.int .i64 mn2) (.int .i64 mx2) 24)
  have HOx := Lib.hid (HO2.out.al (obj5 k2 l2 A2 d2.len c2 mn2 mx2))
  have HBx := Lib.hid (HB3.out.alloc HB3.out.size (obj5 k2 l2 A2 d2.len c2 mn2 mx2))
  clear x0 x1 x2 x3 x4 y0 y1 y2 y3 y4
  obtain ⟨⟨x0, x1, x2, x3, x4⟩, y0, y1, y2, y3, y4⟩ := bx_all HYp.out
  go_wp2_with (go_at_call 20; (with_reducible refine (HPR1.out _ HBx.out).mono ?_); rintro e w5 ⟨⟨k4, l4, A4, c4, mn4, mx4, d4⟩, rfl, hfo4, hok4, hb5⟩; have HF4 := Lib.hid hfo4; have HO4 := Lib.hid hok4; have HB5 := Lib.hid (bt HBx.out hb5 HBx.out.size); have HBC5 := Lib.hid hb5; have HY5 := Lib.hid (HYp.out.below hb5); clear hfo4 hok4 hb5; refine Hid.out ?_)
  refine Lib.hid ?_
  have HY6 := Lib.hid (HY5.out.al (obj5 k4 l4 A4 d4.len c4 mn4 mx4))
  have HT6 := Lib.hid ((HTx.out.below HBC5.out).al (obj5 k4 l4 A4 d4.len c4 mn4 mx4))
  have HU6 := Lib.hid (Bx.new w5 (.int .i64 k4) (.string l4) (.slice A4 d4.len c4) (.int .i64 mn4) (.int .i64 mx4) 24)
  have HO6 := Lib.hid ((HOx.out.below HBC5.out).al (obj5 k4 l4 A4 d4.len c4 mn4 mx4))
  have HO7 := Lib.hid (HO4.out.al (obj5 k4 l4 A4 d4.len c4 mn4 mx4))
  have HB6 := Lib.hid (HB5.out.alloc HB5.out.size (obj5 k4 l4 A4 d4.len c4 mn4 mx4))
  have HOP := Lib.hid (HOK.out.below HB6.out)
  clear x0 x1 x2 x3 x4 y0 y1 y2 y3 y4 HY3 HO2 HY1 HPL HSM HPR1 HYp HTx HOx HBx HY5 HO4 HBC3 HBC5
  go_wp2_with fail
  generalize (w5.alloc (obj5 k4 l4 A4 d4.len c4 mn4 mx4)) = W at *
  have HLL := Lib.hid (show (labF (.cons a.k a.l a.kids a.mn a.mx .nil)).length ≤ 1000000 by
    have := labF_len (.cons a.k a.l a.kids a.mn a.mx .nil)
    have h2 := HZ.out
    simp only [Fo.sz] at this
    omega)
  have HC1 := Lib.hid (fun (w' : World) (hb : Below W.heap.size W w') => rSame_any ⟨k2, l2, A2, c2, mn2, mx2, d2⟩ ⟨k4, l4, A4, c4, mn4, mx4, d4⟩ [] w' (HO6.out.below hb) (HO7.out.below hb) (HF2.out.trans HF4.out.symm) (by rw [HF2.out]; exact HDP.out))
  have HC2 := Lib.hid (fun (w' : World) (hb : Below W.heap.size W w') => Is_any a [] w' (HOP.out.below hb))
  have HC3 := Lib.hid (fun (w' : World) (hb : Below W.heap.size W w') => rIs_any a [] w' (HOP.out.below hb))
  have HC4 := Lib.hid (fun (w' : World) (hb : Below W.heap.size W w') => Nullable_any a [] w' (HOP.out.below hb) HBD.out)
  have HC5 := Lib.hid (fun (w' : World) (hb : Below W.heap.size W w') => rNullable_any a [] w' (HOP.out.below hb) HLB.out (by have := HZ.out; omega))
  have HC6 := Lib.hid (fun (w' : World) (hb : Below W.heap.size W w') => Labels_any a [] w' (HOP.out.below hb) HBD.out HLL.out)
  have HC7 := Lib.hid (fun (w' : World) (hb : Below W.heap.size W w') => (rLabels_any a [] w' (HOP.out.below hb) HLB.out (by have := HZ.out; omega)).mono fun e w'' h => h.lab)
  have HC8 := Lib.hid (fun (w' : World) (hb : Below W.heap.size W w') => Turn_any a [] w' (HOP.out.below hb) HBD.out (fun x hx => by cases hx))
  have HC9 := Lib.hid (fun (w' : World) (hb : Below W.heap.size W w') => rTurn_any a [] w' (HOP.out.below hb) HLB.out (by have := HZ.out; omega) (fun x hx => by cases hx))
  have HC10 := Lib.hid (fun (w' : World) (hb : Below W.heap.size W w') => HA.out w' (bt HB6.out hb HB6.out.size))
  have HLN := Lib.hid (labR_len HLL.out)
  have HTD := Lib.hid (turnR_dpt a.k a.l a.kids a.mn a.mx)
  unfold Nd.v at HC1 HC2 HC3 HC4 HC5 HC6 HC7 HC8 HC9
  simp only at HC1
  clear HLL HDP
  generalize labR a.k a.l a.kids a.mn a.mx = ls at *
  generalize NullB a.k a.l a.kids a.mn a.mx = NB at *
  generalize isB a.k a.l a.kids a.mn a.mx = IB at *
  generalize turnR a.k a.l a.kids a.mn a.mx = TF at *
  have tnb : (NB == NB) = true := beq_self_eq_true _
  have tib : (IB == IB) = true := beq_self_eq_true _
  have teb : (E == E) = true := beq_self_eq_true _
  obtain ⟨⟨x0, x1, x2, x3, x4⟩, y0, y1, y2, y3, y4⟩ := bx_all HY6.out
  obtain ⟨⟨r0, r1, r2, r3, r4⟩, s0, s1, s2, s3, s4⟩ := bx_all HT6.out
  obtain ⟨⟨p0, p1, p2, p3, p4⟩, q0, q1, q2, q3, q4⟩ := bx_all HU6.out
  have HSC := Lib.hid (show ∀ w', Below W.heap.size W w' → (w'.cell? ⟨W0.heap.size, 0, none⟩ = some (.int .i64 a.k) ∧ w'.cell? ⟨W0.heap.size, 1, none⟩ = some (.string a.l) ∧ w'.cell? ⟨W0.heap.size, 2, none⟩ = some (.slice a.A a.kids.len a.c) ∧ w'.cell? ⟨W0.heap.size, 3, none⟩ = some (.int .i64 a.mn) ∧ w'.cell? ⟨W0.heap.size, 4, none⟩ = some (.int .i64 a.mx) ∧ w'.cell? ⟨w3.heap.size, 0, none⟩ = some (.int .i64 k2) ∧ w'.cell? ⟨w3.heap.size, 1, none⟩ = some (.string l2) ∧ w'.cell? ⟨w3.heap.size, 2, none⟩ = some (.slice A2 d2.len c2) ∧ w'.cell? ⟨w3.heap.size, 3, none⟩ = some (.int .i64 mn2) ∧ w'.cell? ⟨w3.heap.size, 4, none⟩ = some (.int .i64 mx2) ∧ w'.cell? ⟨w5.heap.size, 0, none⟩ = some (.int .i64 k4) ∧ w'.cell? ⟨w5.heap.size, 1, none⟩ = some (.string l4) ∧ w'.cell? ⟨w5.heap.size, 2, none⟩ = some (.slice A4 d4.len c4) ∧ w'.cell? ⟨w5.heap.size, 3, none⟩ = some (.int .i64 mn4) ∧ w'.cell? ⟨w5.heap.size, 4, none⟩ = some (.int .i64 mx4)) from fun w' hb => by
    have h1 := HY6.out.below hb
    have h2 := HT6.out.below hb
    have h3 := HU6.out.below hb
    exact ⟨h1.c0, h1.c1, h1.c2, h1.c3, h1.c4, h2.c0, h2.c1, h2.c2, h2.c3, h2.c4, h3.c0, h3.c1, h3.c2, h3.c3, h3.c4⟩)
  have hW0 : Below W.heap.size W W := Below.refl _ _
  have hW1 : Below W.heap.size W W.drew := (Below.refl _ W).drew
  go_region_held3 (fun w' => w'.cell? ⟨W0.heap.size, 0, none⟩ = some (.int .i64 a.k) ∧ w'.cell? ⟨W0.heap.size, 1, none⟩ = some (.string a.l) ∧ w'.cell? ⟨W0.heap.size, 2, none⟩ = some (.slice a.A a.kids.len a.c) ∧ w'.cell? ⟨W0.heap.size, 3, none⟩ = some (.int .i64 a.mn) ∧ w'.cell? ⟨W0.heap.size, 4, none⟩ = some (.int .i64 a.mx) ∧ w'.cell? ⟨w3.heap.size, 0, none⟩ = some (.int .i64 k2) ∧ w'.cell? ⟨w3.heap.size, 1, none⟩ = some (.string l2) ∧ w'.cell? ⟨w3.heap.size, 2, none⟩ = some (.slice A2 d2.len c2) ∧ w'.cell? ⟨w3.heap.size, 3, none⟩ = some (.int .i64 mn2) ∧ w'.cell? ⟨w3.heap.size, 4, none⟩ = some (.int .i64 mx2) ∧ w'.cell? ⟨w5.heap.size, 0, none⟩ = some (.int .i64 k4) ∧ w'.cell? ⟨w5.heap.size, 1, none⟩ = some (.string l4) ∧ w'.cell? ⟨w5.heap.size, 2, none⟩ = some (.slice A4 d4.len c4) ∧ w'.cell? ⟨w5.heap.size, 3, none⟩ = some (.int .i64 mn4) ∧ w'.cell? ⟨w5.heap.size, 4, none⟩ = some (.int .i64 mx4)) (exact HSC.out _ (by assumption)) (first
    | (go_at_call 14; (with_reducible refine (HC1.out _ hW1).mono ?_); rintro e w7 ⟨rfl, hb7⟩; have hW7 : Below W.heap.size W w7 := bt hW1 hb7 hW1.size)
    | (go_at_call 12; (with_reducible refine (HC2.out _ hW7).mono ?_); rintro e w8 ⟨rfl, hb8⟩; have hW8 : Below W.heap.size W w8 := bt hW7 hb8 hW7.size)
    | (go_at_call 21; (with_reducible refine (HC3.out _ hW8).mono ?_); rintro e w9 ⟨rfl, hb9⟩; have hW9 : Below W.heap.size W w9 := bt hW8 hb9 hW8.size)
    | (go_at_call 18; (with_reducible refine (HC4.out _ hW9).mono ?_); rintro e w10 ⟨rfl, hb10⟩; have hW10 : Below W.heap.size W w10 := bt hW9 hb10 hW9.size)
    | (go_at_call 22; (with_reducible refine (HC5.out _ hW10).mono ?_); rintro e w11 ⟨rfl, hb11⟩; have hW11 : Below W.heap.size W w11 := bt hW10 hb11 hW10.size)
    | (go_at_call 17; (with_reducible refine (HC6.out _ hW11).mono ?_); rintro e w12 ⟨A12, c12, rfl, hc12, hr12, hb12⟩; have hW12 : Below W.heap.size W w12 := bt hW11 hb12 hW11.size)
    | (go_at_call 23; (with_reducible refine (HC7.out _ hW12).mono ?_); rintro e w13 ⟨A13, c13, rfl, hc13, hr13, hb13⟩; have hW13 : Below W.heap.size W w13 := bt hW12 hb13 hW12.size; have HTX := Lib.hid (texts_same A12 A13 c12 c13 ls w13 (hr12.below hb13) hr13 hc12 hc13 HLN.out))
    | (go_at_call 19; (with_reducible refine (HTX.out).mono ?_); rintro e w14 ⟨rfl, hb14⟩; have hW14 : Below W.heap.size W w14 := bt hW13 hb14 hW13.size)
    | (go_at_call 13; (with_reducible refine (HC8.out _ hW14).mono ?_); rintro e w15 ⟨⟨k8, l8, A8, c8, mn8, mx8, d8⟩, rfl, hfo8, hok8, hb15⟩; have hW15 : Below W.heap.size W w15 := bt hW14 hb15 hW14.size; have HF8 := Lib.hid hfo8; have HOK8 := Lib.hid hok8; have HBB8 := Lib.hid hb15; clear hfo8 hok8)
    | (go_at_call 24; (with_reducible refine (HC9.out _ hW15).mono ?_); rintro e w16 ⟨⟨k9, l9, A9, c9, mn9, mx9, d9⟩, rfl, hfo9, hok9, hb16⟩; have hW16 : Below W.heap.size W w16 := bt hW15 hb16 hW15.size; have HF9 := Lib.hid hfo9; have HOK9 := Lib.hid hok9; have HBB9 := Lib.hid hb16; clear hfo9 hok9; have HTS := Lib.hid (rSame_any ⟨k8, l8, A8, c8, mn8, mx8, d8⟩ ⟨k9, l9, A9, c9, mn9, mx9, d9⟩ [] w16 (HOK8.out.below HBB9.out) HOK9.out (HF8.out.trans HF9.out.symm) (by rw [HF8.out]; exact HTD.out)); unfold Nd.v at HTS; simp only at HTS)
    | (go_at_call 14; (with_reducible refine (HTS.out).mono ?_); rintro e w17 ⟨rfl, hb17⟩; have hW17 : Below W.heap.size W w17 := bt hW16 hb17 hW16.size)
    | (go_at_call 10; (with_reducible refine (HC10.out _ hW17).mono ?_); rintro e w18 ⟨rfl, hb18⟩; have hW18 : Below W.heap.size W w18 := bt hW17 hb18 hW17.size))
  all_goals
    go_wp2_with fail
    go_ret
    exact ⟨rfl, bt HB6.out hW18 HB6.out.size⟩
end Go.Proofs.YtpaehicfndkliaaGreatDoor.De
