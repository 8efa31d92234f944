/- The law DesugPlain, walked. Condition: the path can be read; the library's two errors can be read. -/
import Derived.Test.YtpaehicfndkliaaGreatDoorEa
import Derived.Test.YtpaehicfndkliaaGreatDoorDr
import Derived.Test.YtpaehicfndkliaaGreatDoorDs
import Derived.Test.YtpaehicfndkliaaGreatDoorGc
import Derived.Test.YtpaehicfndkliaaGreatDoorFe
import Derived.Deep.RegionHeld3
namespace Go.Proofs.YtpaehicfndkliaaGreatDoor.De
open Go.RowKit Go.Lib Na Go.PN Pa

theorem labR_none {k : Int} {l : ByteArray} {d : Fo} {mn mx : Int} (h0 : checkE k l d mn mx ≠ 0) (h : isB k l d mn mx = false) : labR k l d mn mx = [] := by
  unfold labR knownB
  rw [decide_eq_false h0, h]
  rfl
set_option maxRecDepth 100000 in
set_option maxHeartbeats 16000000 in
theorem desugPlain_law (a : Nd) (W0 : World) (hG : ErG W0) (h : a.ok W0 []) (hbl : Bd (a.fo .nil) ∧ Lb (a.fo .nil)) : Calls Tryz.prog 4 #[a.v] W0 fun e w' => e = .returned (.bool true) ∧ Below W0.heap.size W0 w' := by
  obtain ⟨hbd, hlb⟩ := hbl
  have HA := Lib.hid (fun (w1 : World) (hb : Below W0.heap.size W0 w1) => awake_any w1 (hG.below hb))
  have HSM := Lib.hid (fun (w1 : World) (hb : Below W0.heap.size W0 w1) => small_wgt a [] w1 (h.below hb) hlb)
  have HPL := Lib.hid (fun (w1 : World) (hb : Below W0.heap.size W0 w1) => Plain_any a [] w1 (h.below hb) hbd (fun x hx => by cases hx))
  have HB := Lib.hid ((Below.refl _ W0).alloc (Nat.le_refl _) (obj5 a.k a.l a.A a.kids.len a.c a.mn a.mx))
  have HY := Lib.hid (Bx.new W0 (.int .i64 a.k) (.string a.l) (.slice a.A a.kids.len a.c) (.int .i64 a.mn) (.int .i64 a.mx) 24)
  have HOK := Lib.hid h
  have HBD := Lib.hid hbd
  have HLB := Lib.hid hlb
  have HSZ := Lib.hid (fun (hw : wgt (a.fo .nil) ≤ 300) => (show a.kids.sz ≤ 300 by have := sz_wgt (a.fo .nil); unfold Nd.fo at this; simp only [Fo.sz] at this; unfold Nd.fo at hw; omega))
  unfold Nd.v at HSM HPL ⊢
  clear hG h hbd hlb
  generalize wgt (a.fo .nil) = wg at *
  go_enter Tryz.func4, Tryz.ntmps4
  go_wp2_with (go_at_call 7; (with_reducible refine (HSM.out _ HB.out).mono ?_); rintro e w1 ⟨⟨B, rfl, hB⟩, hb1⟩; have HWG := Lib.hid hB; have HB1 := Lib.hid (bt HB.out hb1 HB.out.size); have HY1 := Lib.hid (HY.out.below hb1); clear hb1 hB; refine Hid.out ?_)
  refine Lib.hid ?_
  obtain ⟨⟨x0, x1, x2, x3, x4⟩, y0, y1, y2, y3, y4⟩ := bx_all HY1.out
  cases B
  · go_wp2_with (go_at_call 10; (with_reducible refine (HA.out _ HB1.out).mono ?_); rintro e w2 ⟨rfl, hb2⟩; have HB2 := Lib.hid (bt HB1.out hb2 HB1.out.size); clear hb2)
    go_ret
    exact ⟨rfl, HB2.out⟩
  have HZ := Lib.hid (HSZ.out (HWG.out rfl))
  clear HSZ HWG
  by_cases h0 : checkE a.k a.l a.kids a.mn a.mx = 0
  · have hpr : plainR a.k a.l a.kids a.mn a.mx = (pl1 a.k a.l (plL a.kids) a.mn a.mx, 0) := if_pos h0
    have HTW := Lib.hid (fun k2 l2 d2 mn2 mx2 (he : Fo.cons k2 l2 d2 mn2 mx2 .nil = pl1 a.k a.l (plL a.kids) a.mn a.mx) => plain_two (k2 := k2) (l2 := l2) (d2 := d2) (mn2 := mn2) (mx2 := mx2) h0 (by rw [hpr]; exact he))
    rw [hpr] at HPL
    clear h0 hpr
    generalize pl1 a.k a.l (plL a.kids) a.mn a.mx = F at *
    go_wp2_with (go_at_call 11; (with_reducible refine (HPL.out _ HB1.out).mono ?_); rintro e w3 ⟨⟨k2, l2, A2, c2, mn2, mx2, d2⟩, rfl, hfo3, hok3, hb3⟩; have HF3 := Lib.hid hfo3; have HO3 := Lib.hid hok3; have HB3 := Lib.hid (bt HB1.out hb3 HB1.out.size); have HY3 := Lib.hid (HY1.out.below hb3); clear hfo3 hok3 hb3; refine Hid.out ?_)
    refine Lib.hid ?_
    have HP := Lib.hid (HTW.out k2 l2 d2 mn2 mx2 HF3.out)
    go_wp2_with fail
    have HY4 := Lib.hid (HY3.out.al (obj5 k2 l2 A2 d2.len c2 mn2 mx2))
    have HT4 := Lib.hid (Bx.new w3 (.int .i64 k2) (.string l2) (.slice A2 d2.len c2) (.int .i64 mn2) (.int .i64 mx2) 24)
    have HO4 := Lib.hid (HO3.out.al (obj5 k2 l2 A2 d2.len c2 mn2 mx2))
    have HB4 := Lib.hid (HB3.out.alloc HB3.out.size (obj5 k2 l2 A2 d2.len c2 mn2 mx2))
    have HOP := Lib.hid (HOK.out.below HB4.out)
    clear HY3 HO3 HY1 HPL HSM
    generalize (w3.alloc (obj5 k2 l2 A2 d2.len c2 mn2 mx2)) = W at *
    have HC1 := Lib.hid (fun (w' : World) (hb : Below W.heap.size W w') => (Is_any ⟨k2, l2, A2, c2, mn2, mx2, d2⟩ [] w' (HO4.out.below hb)).mono fun e w'' h => (⟨h.1.trans (by rw [HP.out.is]), h.2⟩ : e = .returned (.bool true) ∧ Below w'.heap.size w' w''))
    have HC2 := Lib.hid (fun (w' : World) (hb : Below W.heap.size W w') => Nullable_any ⟨k2, l2, A2, c2, mn2, mx2, d2⟩ [] w' (HO4.out.below hb) HP.out.bd)
    have HC3 := Lib.hid (fun (w' : World) (hb : Below W.heap.size W w') => Nullable_any a [] w' (HOP.out.below hb) HBD.out)
    have HC4 := Lib.hid (fun (w' : World) (hb : Below W.heap.size W w') => Labels_any ⟨k2, l2, A2, c2, mn2, mx2, d2⟩ [] w' (HO4.out.below hb) HP.out.bd HP.out.l1)
    have HC5 := Lib.hid (fun (w' : World) (hb : Below W.heap.size W w') => Labels_any a [] w' (HOP.out.below hb) HBD.out HP.out.l0)
    have HC9 := Lib.hid (fun (w' : World) (hb : Below W.heap.size W w') => HA.out w' (bt HB4.out hb HB4.out.size))
    unfold Nd.v at HC1 HC2 HC3 HC4 HC5
    simp only at HC1 HC2 HC4
    have HLA := Lib.hid HP.out.la
    have HNU := Lib.hid HP.out.nu
    have HLN := Lib.hid HP.out.ln
    rw [HLA.out] at HC4
    rw [HNU.out] at HC2
    clear HLA HNU
    generalize labR a.k a.l a.kids a.mn a.mx = ls at *
    generalize NullB a.k a.l a.kids a.mn a.mx = NB at *
    have tnb : (NB == NB) = true := beq_self_eq_true _
    obtain ⟨⟨x0, x1, x2, x3, x4⟩, y0, y1, y2, y3, y4⟩ := bx_all HY4.out
    obtain ⟨⟨r0, r1, r2, r3, r4⟩, s0, s1, s2, s3, s4⟩ := bx_all HT4.out
    have HSC := Lib.hid (show ∀ w', Below W.heap.size W w' → (w'.cell? ⟨W0.heap.size, 0, none⟩ = some (.int .i64 a.k) ∧ w'.cell? ⟨W0.heap.size, 1, none⟩ = some (.string a.l) ∧ w'.cell? ⟨W0.heap.size, 2, none⟩ = some (.slice a.A a.kids.len a.c) ∧ w'.cell? ⟨W0.heap.size, 3, none⟩ = some (.int .i64 a.mn) ∧ w'.cell? ⟨W0.heap.size, 4, none⟩ = some (.int .i64 a.mx) ∧ w'.cell? ⟨w3.heap.size, 0, none⟩ = some (.int .i64 k2) ∧ w'.cell? ⟨w3.heap.size, 1, none⟩ = some (.string l2) ∧ w'.cell? ⟨w3.heap.size, 2, none⟩ = some (.slice A2 d2.len c2) ∧ w'.cell? ⟨w3.heap.size, 3, none⟩ = some (.int .i64 mn2) ∧ w'.cell? ⟨w3.heap.size, 4, none⟩ = some (.int .i64 mx2)) from fun w' hb => by
      have h1 := HY4.out.below hb
      have h2 := HT4.out.below hb
      exact ⟨h1.c0, h1.c1, h1.c2, h1.c3, h1.c4, h2.c0, h2.c1, h2.c2, h2.c3, h2.c4⟩)
    have hW0 : Below W.heap.size W W := Below.refl _ _
    have hW1 : Below W.heap.size W W.drew := (Below.refl _ W).drew
    go_region_held3 (fun w' => w'.cell? ⟨W0.heap.size, 0, none⟩ = some (.int .i64 a.k) ∧ w'.cell? ⟨W0.heap.size, 1, none⟩ = some (.string a.l) ∧ w'.cell? ⟨W0.heap.size, 2, none⟩ = some (.slice a.A a.kids.len a.c) ∧ w'.cell? ⟨W0.heap.size, 3, none⟩ = some (.int .i64 a.mn) ∧ w'.cell? ⟨W0.heap.size, 4, none⟩ = some (.int .i64 a.mx) ∧ w'.cell? ⟨w3.heap.size, 0, none⟩ = some (.int .i64 k2) ∧ w'.cell? ⟨w3.heap.size, 1, none⟩ = some (.string l2) ∧ w'.cell? ⟨w3.heap.size, 2, none⟩ = some (.slice A2 d2.len c2) ∧ w'.cell? ⟨w3.heap.size, 3, none⟩ = some (.int .i64 mn2) ∧ w'.cell? ⟨w3.heap.size, 4, none⟩ = some (.int .i64 mx2)) (exact HSC.out _ (by assumption)) (first
      | (go_at_call 12; (with_reducible refine (HC1.out _ hW1).mono ?_); rintro e w5 ⟨rfl, hb5⟩; have hW5 : Below W.heap.size W w5 := bt hW1 hb5 hW1.size)
      | (go_at_call 18; (with_reducible refine (HC2.out _ hW5).mono ?_); rintro e w6 ⟨rfl, hb6⟩; have hW6 : Below W.heap.size W w6 := bt hW5 hb6 hW5.size)
      | (go_at_call 18; (with_reducible refine (HC3.out _ hW6).mono ?_); rintro e w7 ⟨rfl, hb7⟩; have hW7 : Below W.heap.size W w7 := bt hW6 hb7 hW6.size)
      | (go_at_call 17; (with_reducible refine (HC4.out _ hW7).mono ?_); rintro e w8 ⟨A8, c8, rfl, hc8, hr8, hb8⟩; have hW8 : Below W.heap.size W w8 := bt hW7 hb8 hW7.size)
      | (go_at_call 17; (with_reducible refine (HC5.out _ hW8).mono ?_); rintro e w9 ⟨A9, c9, rfl, hc9, hr9, hb9⟩; have hW9 : Below W.heap.size W w9 := bt hW8 hb9 hW8.size; have HTX := Lib.hid (texts_same A8 A9 c8 c9 ls w9 (hr8.below hb9) hr9 hc8 hc9 HLN.out))
      | (go_at_call 19; (with_reducible refine (HTX.out).mono ?_); rintro e w10 ⟨rfl, hb10⟩; have hW10 : Below W.heap.size W w10 := bt hW9 hb10 hW9.size)
      | (go_at_call 10; (with_reducible refine (HC9.out _ hW10).mono ?_); rintro e w15 ⟨rfl, hb15⟩; have hW15 : Below W.heap.size W w15 := bt hW10 hb15 hW10.size))
    all_goals
      go_wp2_with fail
      go_ret
      exact ⟨rfl, bt HB4.out hW15 HB4.out.size⟩
  · have hpr : plainR a.k a.l a.kids a.mn a.mx = (zerF, checkE a.k a.l a.kids a.mn a.mx) := if_neg h0
    rw [hpr] at HPL
    have t1 : (checkE a.k a.l a.kids a.mn a.mx != 0) = true := by rw [bne_iff_ne]; exact h0
    have t2 : (checkE a.k a.l a.kids a.mn a.mx == checkE a.k a.l a.kids a.mn a.mx) = true := beq_self_eq_true _
    have HLN := Lib.hid (fun (hi : isB a.k a.l a.kids a.mn a.mx = false) => labR_none h0 hi)
    have HLL := Lib.hid (show (labF (a.fo .nil)).length ≤ 1000000 by
      have := labF_len (a.fo .nil)
      have h2 := HZ.out
      unfold Nd.fo at this ⊢
      simp only [Fo.sz] at this
      omega)
    have HRC := Lib.hid (fun (w1 : World) (hb : Below W0.heap.size W0 w1) => rCheck_any a [] w1 (HOK.out.below hb) HLB.out (by have := HZ.out; omega))
    unfold Nd.v at HRC
    clear hpr h0
    generalize checkE a.k a.l a.kids a.mn a.mx = E at *
    have HIS := Lib.hid (fun (w' : World) (hb : Below W0.heap.size W0 w') => Is_any a [] w' (HOK.out.below hb))
    have HLA := Lib.hid (fun (hi : isB a.k a.l a.kids a.mn a.mx = false) (w' : World) (hb : Below W0.heap.size W0 w') => (Labels_any a [] w' (HOK.out.below hb) HBD.out HLL.out).mono fun e w'' h => by
      rw [HLN.out hi] at h
      obtain ⟨A, c, h1, _, _, h4⟩ := h
      exact (⟨⟨A, c, h1⟩, h4⟩ : (∃ (A : Option Addr) (c : Nat), e = .returned (.slice A 0 c)) ∧ Below w'.heap.size w' w''))
    unfold Nd.v at HIS HLA
    clear HLN HLL HZ
    obtain ⟨I, hI⟩ : ∃ I, isB a.k a.l a.kids a.mn a.mx = I := ⟨_, rfl⟩
    rw [hI] at HIS HLA
    clear hI
    cases I
    · have HLS := Lib.hid (HLA.out rfl)
      clear HLA
      go_wp2_with (first
        | (go_at_call 11; (with_reducible refine (HPL.out _ HB1.out).mono ?_); rintro e w3 ⟨⟨k2, l2, A2, c2, mn2, mx2, d2⟩, rfl, hfo3, hok3, hb3⟩; have HB3 := Lib.hid ((bt HB1.out hb3 HB1.out.size).alloc (bt HB1.out hb3 HB1.out.size).size (obj5 k2 l2 A2 d2.len c2 mn2 mx2)); have HY3 := Lib.hid (HY1.out.below hb3); obtain ⟨⟨x0, x1, x2, x3, x4⟩, y0, y1, y2, y3, y4⟩ := bx_all (HY3.out.al (obj5 k2 l2 A2 d2.len c2 mn2 mx2)); clear hfo3 hok3 hb3)
        | (go_at_call 8; (with_reducible refine (HRC.out _ HB3.out).mono ?_); rintro e w5 ⟨rfl, hb5⟩; have HB5 := Lib.hid (bt HB3.out hb5 HB3.out.size); have HY5 := Lib.hid ((HY3.out.al (obj5 k2 l2 A2 d2.len c2 mn2 mx2)).below hb5); obtain ⟨⟨p0, p1, p2, p3, p4⟩, q0, q1, q2, q3, q4⟩ := bx_all HY5.out; clear hb5)
        | (go_at_call 12; (with_reducible refine (HIS.out _ HB5.out).mono ?_); rintro e w6 ⟨rfl, hb6⟩; have HB6 := Lib.hid (bt HB5.out hb6 HB5.out.size); have HY6 := Lib.hid (HY5.out.below hb6); obtain ⟨⟨r0, r1, r2, r3, r4⟩, s0, s1, s2, s3, s4⟩ := bx_all HY6.out; clear hb6)
        | (go_at_call 17; (with_reducible refine (HLS.out _ HB6.out).mono ?_); rintro e w7 ⟨⟨A7, c7, rfl⟩, hb7⟩; have HB7 := Lib.hid (bt HB6.out hb7 HB6.out.size); clear hb7)
        | (go_at_call 10; (with_reducible refine (HA.out _ HB7.out).mono ?_); rintro e w8 ⟨rfl, hb8⟩; have HB8 := Lib.hid (bt HB7.out hb8 HB7.out.size); clear hb8))
      go_ret
      exact ⟨rfl, HB8.out⟩
    · clear HLA
      go_wp2_with (first
        | (go_at_call 11; (with_reducible refine (HPL.out _ HB1.out).mono ?_); rintro e w3 ⟨⟨k2, l2, A2, c2, mn2, mx2, d2⟩, rfl, hfo3, hok3, hb3⟩; have HB3 := Lib.hid ((bt HB1.out hb3 HB1.out.size).alloc (bt HB1.out hb3 HB1.out.size).size (obj5 k2 l2 A2 d2.len c2 mn2 mx2)); have HY3 := Lib.hid (HY1.out.below hb3); obtain ⟨⟨x0, x1, x2, x3, x4⟩, y0, y1, y2, y3, y4⟩ := bx_all (HY3.out.al (obj5 k2 l2 A2 d2.len c2 mn2 mx2)); clear hfo3 hok3 hb3)
        | (go_at_call 8; (with_reducible refine (HRC.out _ HB3.out).mono ?_); rintro e w5 ⟨rfl, hb5⟩; have HB5 := Lib.hid (bt HB3.out hb5 HB3.out.size); have HY5 := Lib.hid ((HY3.out.al (obj5 k2 l2 A2 d2.len c2 mn2 mx2)).below hb5); obtain ⟨⟨p0, p1, p2, p3, p4⟩, q0, q1, q2, q3, q4⟩ := bx_all HY5.out; clear hb5)
        | (go_at_call 12; (with_reducible refine (HIS.out _ HB5.out).mono ?_); rintro e w6 ⟨rfl, hb6⟩; have HB6 := Lib.hid (bt HB5.out hb6 HB5.out.size); have HY6 := Lib.hid (HY5.out.below hb6); obtain ⟨⟨r0, r1, r2, r3, r4⟩, s0, s1, s2, s3, s4⟩ := bx_all HY6.out; clear hb6)
        | (go_at_call 10; (with_reducible refine (HA.out _ HB6.out).mono ?_); rintro e w8 ⟨rfl, hb8⟩; have HB8 := Lib.hid (bt HB6.out hb8 HB6.out.size); clear hb8))
      go_ret
      exact ⟨rfl, HB8.out⟩
end Go.Proofs.YtpaehicfndkliaaGreatDoor.De
