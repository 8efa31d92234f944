/- The law DesugTurns, walked. Condition: the path can be read; the library's two errors can be read. -/
import Derived.Test.YtnclbkkplkdbjaaGreatDoorEa
import Derived.Test.YtnclbkkplkdbjaaGreatDoorDr
import Derived.Test.YtnclbkkplkdbjaaGreatDoorDt
import Derived.Test.YtnclbkkplkdbjaaGreatDoorDy
import Derived.Deep.RegionHeld3
namespace Go.Proofs.YtnclbkkplkdbjaaGreatDoor.De
open Go.RowKit Go.Lib Na Go.PN Pa

theorem bd_rev {f : Fo} (h : Bd f) : Bd (revF f) := by
  induction f with
  | nil => trivial
  | cons k l d mn mx r _ ih =>
    rw [revF]
    exact bd_app2.2 ⟨ih h.2.2.2, h.1, h.2.1, h.2.2.1, trivial⟩
theorem bd_tu {f : Fo} (h : Bd f) : Bd (tuL f) := by
  induction f with
  | nil => trivial
  | cons k l d mn mx r ih1 ih2 =>
    rw [tuL_cons]
    refine ⟨?_, ?_, ?_, ih2 h.2.2.2⟩
    · split
      · exact h.1
      · omega
    · split
      · exact h.2.1
      · omega
    · unfold dt
      split
      · exact bd_rev (ih1 h.2.2.1)
      · exact ih1 h.2.2.1
/-- What is known of a path and of the one turned round. -/
structure TwoP (k : Int) (l : ByteArray) (d : Fo) (mn mx : Int) (k2 : Int) (l2 : ByteArray) (d2 : Fo) (mn2 mx2 : Int) : Prop where
  c2 : checkE k2 l2 d2 mn2 mx2 = 0
  t2 : sameL (turnR k2 l2 d2 mn2 mx2) (.cons k l d mn mx .nil) = true
  la : labR k2 l2 d2 mn2 mx2 = labR k l d mn mx
  nu : NullB k2 l2 d2 mn2 mx2 = NullB k l d mn mx
  sz : sizeF k2 d2 mn2 mx2 = sizeF k d mn mx
  bd : Bd (.cons k2 l2 d2 mn2 mx2 .nil)
  l1 : (labF (.cons k2 l2 d2 mn2 mx2 .nil)).length ≤ 1000000
  l0 : (labF (.cons k l d mn mx .nil)).length ≤ 1000000
  ln : (labR k l d mn mx).length ≤ 1000000
  dp : dp d 1 ≤ 40
  dp2 : Pa.dp d2 1 ≤ 40
theorem known_check {k : Int} {l : ByteArray} {d : Fo} {mn mx : Int} (h : checkE k l d mn mx = 0) : knownB k l d mn mx = true := by unfold knownB; rw [decide_eq_true h]; rfl
theorem two_of {k : Int} {l : ByteArray} {d : Fo} {mn mx : Int} {k2 : Int} {l2 : ByteArray} {d2 : Fo} {mn2 mx2 : Int} (h : checkE k l d mn mx = 0) (hbd : Bd (.cons k l d mn mx .nil)) (he : Fo.cons k2 l2 d2 mn2 mx2 .nil = turnR k l d mn mx) : TwoP k l d mn mx k2 l2 d2 mn2 mx2 := by
  have hk := known_check h
  have he2 : Fo.cons k2 l2 d2 mn2 mx2 .nil = tuL (.cons k l d mn mx .nil) := by
    rw [he]
    unfold turnR
    rw [if_pos hk]
    rfl
  have he3 := he2
  rw [tuL_cons] at he3
  obtain ⟨e1, e2, e3, e4, e5, _⟩ := Fo.cons.inj he3
  have hc2 : checkE k2 l2 d2 mn2 mx2 = 0 := by rw [e1, e2, e3, e4, e5]; exact check_tu h
  have hk2 := known_check hc2
  obtain ⟨hv, hd, hs, hz⟩ := check_zero h
  obtain ⟨hv2, hd2, hs2, hz2⟩ := check_zero hc2
  have hl0 : (labF (.cons k l d mn mx .nil)).length ≤ 60 := by have := labF_len (.cons k l d mn mx .nil); simp only [Fo.sz] at this; omega
  have hl1 : (labF (.cons k2 l2 d2 mn2 mx2 .nil)).length ≤ 60 := by have := labF_len (.cons k2 l2 d2 mn2 mx2 .nil); simp only [Fo.sz] at this; omega
  refine ⟨hc2, ?_, ?_, ?_, ?_, ?_, by omega, by omega, ?_, by omega, by omega⟩
  · rw [sameL_iff]
    unfold turnR
    rw [if_pos hk2]
    have h1 : tu1 k2 l2 (tuL d2) mn2 mx2 = tuL (.cons k2 l2 d2 mn2 mx2 .nil) := rfl
    rw [h1, he2, tuL_tuL, nrm_nrm]
  · unfold labR
    rw [if_pos hk, if_pos hk2]
    refine lbl_eq fun z => ?_
    rw [List.mem_map, List.mem_map, he2]
    constructor
    · rintro ⟨x, hx, e⟩; exact ⟨x, (labF_tu _ x).1 hx, e⟩
    · rintro ⟨x, hx, e⟩; exact ⟨x, (labF_tu _ x).2 hx, e⟩
  · unfold NullB
    rw [hk, hk2, e1, e3, e4]
    congr 1
    unfold nuB
    have : nuL (dt k (tuL d)) = nuL d := by
      unfold dt
      split
      · rw [nuL_rev, nuL_tu]
      · rw [nuL_tu]
    rw [this, nu1_tu]
  · rw [e1, e3, e4, e5]; exact sizeF_tu k d mn mx
  · rw [he2]; exact bd_tu hbd
  · unfold labR
    rw [if_pos hk]
    have := lbl_len ((labF (.cons k l d mn mx .nil)).map bl)
    rw [List.length_map] at this
    omega
end Go.Proofs.YtnclbkkplkdbjaaGreatDoor.De

/- The law DesugTurns, walked. Condition: the path can be read; the library's two errors can be read. -/
namespace Go.Proofs.YtnclbkkplkdbjaaGreatDoor.De
open Go.RowKit Go.Lib Na Go.PN Pa

set_option maxRecDepth 100000 in
set_option maxHeartbeats 16000000 in
theorem desugTurns_law (a : Nd) (W0 : World) (hG : ErG W0) (h : a.ok W0 []) (hbl : Bd (a.fo .nil) ∧ Lb (a.fo .nil)) : Calls Tryz.prog 6 #[a.v] W0 fun e w' => e = .returned (.bool true) ∧ Below W0.heap.size W0 w' := by
  obtain ⟨hbd, hlb⟩ := hbl
  have HA := Lib.hid (fun (w1 : World) (hb : Below W0.heap.size W0 w1) => awake_any w1 (hG.below hb))
  have HSM := Lib.hid (fun (w1 : World) (hb : Below W0.heap.size W0 w1) => small_any a [] w1 (h.below hb) hlb)
  have HCK := Lib.hid (fun (w1 : World) (hb : Below W0.heap.size W0 w1) => check_any a [] w1 (h.below hb) hbd)
  have HTN := Lib.hid (fun (w1 : World) (hb : Below W0.heap.size W0 w1) => Turn_any a [] w1 (h.below hb) hbd (fun x hx => by cases hx))
  have HB := Lib.hid ((Below.refl _ W0).alloc (Nat.le_refl _) (obj5 a.k a.l a.A a.kids.len a.c a.mn a.mx))
  have HY := Lib.hid (Bx.new W0 (.int .i64 a.k) (.string a.l) (.slice a.A a.kids.len a.c) (.int .i64 a.mn) (.int .i64 a.mx) 24)
  have HOK := Lib.hid h
  have HBD := Lib.hid hbd
  unfold Nd.v at HSM HCK HTN ⊢
  clear hG h hbd hlb
  go_enter Tryz.func6, Tryz.ntmps6
  go_wp2_with (go_at_call 7; (with_reducible refine (HSM.out _ HB.out).mono ?_); rintro e w1 ⟨⟨B, rfl⟩, hb1⟩; have HB1 := Lib.hid (bt HB.out hb1 HB.out.size); have HY1 := Lib.hid (HY.out.below hb1); clear hb1; refine Hid.out ?_)
  refine Lib.hid ?_
  obtain ⟨⟨x0, x1, x2, x3, x4⟩, y0, y1, y2, y3, y4⟩ := bx_all HY1.out
  cases B
  · go_wp2_with (go_at_call 10; (with_reducible refine (HA.out _ HB1.out).mono ?_); rintro e w2 ⟨rfl, hb2⟩; have HB2 := Lib.hid (bt HB1.out hb2 HB1.out.size); clear hb2)
    go_ret
    exact ⟨rfl, HB2.out⟩
  by_cases h0 : checkE a.k a.l a.kids a.mn a.mx = 0
  · rw [h0] at HCK
    have HTW := Lib.hid (fun k2 l2 d2 mn2 mx2 he => two_of (k2 := k2) (l2 := l2) (d2 := d2) (mn2 := mn2) (mx2 := mx2) h0 HBD.out he)
    clear h0
    go_wp2_with (first
      | (go_at_call 25; (with_reducible refine (HCK.out _ HB1.out).mono ?_); rintro e w2 ⟨rfl, hb2⟩; have HB2 := Lib.hid (bt HB1.out hb2 HB1.out.size); have HY2 := Lib.hid (HY1.out.below hb2); obtain ⟨⟨p0, p1, p2, p3, p4⟩, q0, q1, q2, q3, q4⟩ := bx_all HY2.out; clear hb2)
      | (go_at_call 13; (with_reducible refine (HTN.out _ HB2.out).mono ?_); rintro e w3 ⟨⟨k2, l2, A2, c2, mn2, mx2, d2⟩, rfl, hfo3, hok3, hb3⟩; have HF3 := Lib.hid hfo3; have HO3 := Lib.hid hok3; have HB3 := Lib.hid (bt HB2.out hb3 HB2.out.size); have HY3 := Lib.hid (HY2.out.below hb3); clear hfo3 hok3 hb3))
    have HP := Lib.hid (HTW.out k2 l2 d2 mn2 mx2 HF3.out)
    have HY4 := Lib.hid (HY3.out.al (obj5 k2 l2 A2 d2.len c2 mn2 mx2))
    have HT4 := Lib.hid (Bx.new w3 (.int .i64 k2) (.string l2) (.slice A2 d2.len c2) (.int .i64 mn2) (.int .i64 mx2) 24)
    have HO4 := Lib.hid (HO3.out.al (obj5 k2 l2 A2 d2.len c2 mn2 mx2))
    have HB4 := Lib.hid (HB3.out.alloc HB3.out.size (obj5 k2 l2 A2 d2.len c2 mn2 mx2))
    have HOP := Lib.hid (HOK.out.below HB4.out)
    clear HY3 HO3 HY1 HTN HSM HCK
    generalize (w3.alloc (obj5 k2 l2 A2 d2.len c2 mn2 mx2)) = W at *
    have HC1 := Lib.hid (fun (w' : World) (hb : Below W.heap.size W w') => (check_any ⟨k2, l2, A2, c2, mn2, mx2, d2⟩ [] w' (HO4.out.below hb) HP.out.bd).mono fun e w'' h => (⟨h.1.trans (by rw [HP.out.c2]), h.2⟩ : e = .returned (.int .i64 0) ∧ Below w'.heap.size w' w''))
    have HC2 := Lib.hid (fun (w' : World) (hb : Below W.heap.size W w') => Turn_any ⟨k2, l2, A2, c2, mn2, mx2, d2⟩ [] w' (HO4.out.below hb) HP.out.bd (fun x hx => by cases hx))
    have HC3 := Lib.hid (fun (w' : World) (hb : Below W.heap.size W w') => Labels_any ⟨k2, l2, A2, c2, mn2, mx2, d2⟩ [] w' (HO4.out.below hb) HP.out.bd HP.out.l1)
    have HC4 := Lib.hid (fun (w' : World) (hb : Below W.heap.size W w') => Labels_any a [] w' (HOP.out.below hb) HBD.out HP.out.l0)
    have HC5 := Lib.hid (fun (w' : World) (hb : Below W.heap.size W w') => Nullable_any ⟨k2, l2, A2, c2, mn2, mx2, d2⟩ [] w' (HO4.out.below hb) HP.out.bd)
    have HC6 := Lib.hid (fun (w' : World) (hb : Below W.heap.size W w') => Nullable_any a [] w' (HOP.out.below hb) HBD.out)
    have HC7 := Lib.hid (fun (w' : World) (hb : Below W.heap.size W w') => Size_any ⟨k2, l2, A2, c2, mn2, mx2, d2⟩ [] w' (HO4.out.below hb) HP.out.bd HP.out.dp2)
    have HC8 := Lib.hid (fun (w' : World) (hb : Below W.heap.size W w') => Size_any a [] w' (HOP.out.below hb) HBD.out HP.out.dp)
    have HC9 := Lib.hid (fun (w' : World) (hb : Below W.heap.size W w') => HA.out w' (bt HB4.out hb HB4.out.size))
    have HCS := Lib.hid (fun (w' : World) (hb : Below W.heap.size W w') (u : Nd) (hu : u.ok w' []) (hf : u.fo .nil = turnR k2 l2 d2 mn2 mx2) => (Same_any u a [] w' hu (HOP.out.below hb)).mono fun e w'' h => (⟨h.1.trans (by rw [hf]; exact congrArg (fun b => Ending.returned (.bool b)) HP.out.t2), h.2⟩ : e = .returned (.bool true) ∧ Below w'.heap.size w' w''))
    unfold Nd.v at HC1 HC2 HC3 HC4 HC5 HC6 HC7 HC8
    simp only at HC1 HC2 HC3 HC5 HC7
    have HLA := Lib.hid HP.out.la
    have HNU := Lib.hid HP.out.nu
    have HSZ := Lib.hid HP.out.sz
    have HLN := Lib.hid HP.out.ln
    rw [HLA.out] at HC3
    rw [HNU.out] at HC5
    rw [HSZ.out] at HC7
    clear HLA HNU HSZ
    generalize labR a.k a.l a.kids a.mn a.mx = ls at *
    generalize NullB a.k a.l a.kids a.mn a.mx = NB at *
    generalize sizeF a.k a.kids a.mn a.mx = SZ at *
    have tnb : (NB == NB) = true := beq_self_eq_true _
    have tsz : (SZ == SZ) = true := beq_self_eq_true _
    obtain ⟨⟨x0, x1, x2, x3, x4⟩, y0, y1, y2, y3, y4⟩ := bx_all HY4.out
    obtain ⟨⟨r0, r1, r2, r3, r4⟩, s0, s1, s2, s3, s4⟩ := bx_all HT4.out
    have HSC := Lib.hid (show ∀ w', Below W.heap.size W w' → (w'.cell? ⟨W0.heap.size, 0, none⟩ = some (.int .i64 a.k) ∧ w'.cell? ⟨W0.heap.size, 1, none⟩ = some (.string a.l) ∧ w'.cell? ⟨W0.heap.size, 2, none⟩ = some (.slice a.A a.kids.len a.c) ∧ w'.cell? ⟨W0.heap.size, 3, none⟩ = some (.int .i64 a.mn) ∧ w'.cell? ⟨W0.heap.size, 4, none⟩ = some (.int .i64 a.mx) ∧ w'.cell? ⟨w3.heap.size, 0, none⟩ = some (.int .i64 k2) ∧ w'.cell? ⟨w3.heap.size, 1, none⟩ = some (.string l2) ∧ w'.cell? ⟨w3.heap.size, 2, none⟩ = some (.slice A2 d2.len c2) ∧ w'.cell? ⟨w3.heap.size, 3, none⟩ = some (.int .i64 mn2) ∧ w'.cell? ⟨w3.heap.size, 4, none⟩ = some (.int .i64 mx2)) from fun w' hb => by
      have h1 := HY4.out.below hb
      have h2 := HT4.out.below hb
      exact ⟨h1.c0, h1.c1, h1.c2, h1.c3, h1.c4, h2.c0, h2.c1, h2.c2, h2.c3, h2.c4⟩)
    have hW0 : Below W.heap.size W W := Below.refl _ _
    have hW1 : Below W.heap.size W W.drew := (Below.refl _ W).drew
    go_region_held3 (fun w' => w'.cell? ⟨W0.heap.size, 0, none⟩ = some (.int .i64 a.k) ∧ w'.cell? ⟨W0.heap.size, 1, none⟩ = some (.string a.l) ∧ w'.cell? ⟨W0.heap.size, 2, none⟩ = some (.slice a.A a.kids.len a.c) ∧ w'.cell? ⟨W0.heap.size, 3, none⟩ = some (.int .i64 a.mn) ∧ w'.cell? ⟨W0.heap.size, 4, none⟩ = some (.int .i64 a.mx) ∧ w'.cell? ⟨w3.heap.size, 0, none⟩ = some (.int .i64 k2) ∧ w'.cell? ⟨w3.heap.size, 1, none⟩ = some (.string l2) ∧ w'.cell? ⟨w3.heap.size, 2, none⟩ = some (.slice A2 d2.len c2) ∧ w'.cell? ⟨w3.heap.size, 3, none⟩ = some (.int .i64 mn2) ∧ w'.cell? ⟨w3.heap.size, 4, none⟩ = some (.int .i64 mx2)) (exact HSC.out _ (by assumption)) (first
      | (go_at_call 25; (with_reducible refine (HC1.out _ hW1).mono ?_); rintro e w5 ⟨rfl, hb5⟩; have hW5 : Below W.heap.size W w5 := bt hW1 hb5 hW1.size)
      | (go_at_call 13; (with_reducible refine (HC2.out _ hW5).mono ?_); rintro e w6 ⟨u, rfl, hfo6, hok6, hb6⟩; have hW6 : Below W.heap.size W w6 := bt hW5 hb6 hW5.size; have HSA := Lib.hid (HCS.out w6 hW6 u hok6 hfo6))
      | (go_at_call 26; (with_reducible refine (HSA.out).mono ?_); rintro e w7 ⟨rfl, hb7⟩; have hW7 : Below W.heap.size W w7 := bt hW6 hb7 hW6.size)
      | (go_at_call 17; (with_reducible refine (HC3.out _ hW7).mono ?_); rintro e w8 ⟨A8, c8, rfl, hc8, hr8, hb8⟩; have hW8 : Below W.heap.size W w8 := bt hW7 hb8 hW7.size)
      | (go_at_call 17; (with_reducible refine (HC4.out _ hW8).mono ?_); rintro e w9 ⟨A9, c9, rfl, hc9, hr9, hb9⟩; have hW9 : Below W.heap.size W w9 := bt hW8 hb9 hW8.size; have HTX := Lib.hid (texts_same A8 A9 c8 c9 ls w9 (hr8.below hb9) hr9 hc8 hc9 HLN.out))
      | (go_at_call 19; (with_reducible refine (HTX.out).mono ?_); rintro e w10 ⟨rfl, hb10⟩; have hW10 : Below W.heap.size W w10 := bt hW9 hb10 hW9.size)
      | (go_at_call 18; (with_reducible refine (HC5.out _ hW10).mono ?_); rintro e w11 ⟨rfl, hb11⟩; have hW11 : Below W.heap.size W w11 := bt hW10 hb11 hW10.size)
      | (go_at_call 18; (with_reducible refine (HC6.out _ hW11).mono ?_); rintro e w12 ⟨rfl, hb12⟩; have hW12 : Below W.heap.size W w12 := bt hW11 hb12 hW11.size)
      | (go_at_call 27; (with_reducible refine (HC7.out _ hW12).mono ?_); rintro e w13 ⟨rfl, hb13⟩; have hW13 : Below W.heap.size W w13 := bt hW12 hb13 hW12.size)
      | (go_at_call 27; (with_reducible refine (HC8.out _ hW13).mono ?_); rintro e w14 ⟨rfl, hb14⟩; have hW14 : Below W.heap.size W w14 := bt hW13 hb14 hW13.size)
      | (go_at_call 10; (with_reducible refine (HC9.out _ hW14).mono ?_); rintro e w15 ⟨rfl, hb15⟩; have hW15 : Below W.heap.size W w15 := bt hW14 hb15 hW14.size))
    all_goals
      go_wp2_with fail
      go_ret
      exact ⟨rfl, bt HB4.out hW15 HB4.out.size⟩
  · have t0 : (checkE a.k a.l a.kids a.mn a.mx == 0) = false := by rw [beq_eq_false_iff_ne]; exact h0
    have t1 : (checkE a.k a.l a.kids a.mn a.mx != 0) = true := by rw [bne_iff_ne]; exact h0
    generalize checkE a.k a.l a.kids a.mn a.mx = E at *
    clear h0 HTN
    go_wp2_with (first
      | (go_at_call 25; (with_reducible refine (HCK.out _ HB1.out).mono ?_); rintro e w2 ⟨rfl, hb2⟩; have HB2 := Lib.hid (bt HB1.out hb2 HB1.out.size); clear hb2)
      | (go_at_call 10; (with_reducible refine (HA.out _ HB2.out).mono ?_); rintro e w3 ⟨rfl, hb3⟩; have HB3 := Lib.hid (bt HB2.out hb3 HB2.out.size); clear hb3))
    go_ret
    exact ⟨rfl, HB3.out⟩
end Go.Proofs.YtnclbkkplkdbjaaGreatDoor.De
