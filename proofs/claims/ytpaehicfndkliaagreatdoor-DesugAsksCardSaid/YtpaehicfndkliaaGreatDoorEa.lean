
/- The walk of the law's 'awake'. Condition: the library's two errors can be read. -/
import Derived.Test.YtpaehicfndkliaaGreatDoorDl
import Derived.Test.YtpaehicfndkliaaGreatDoorDh
import Derived.Test.YtpaehicfndkliaaGreatDoorRa
namespace Go.Proofs.YtpaehicfndkliaaGreatDoor.De
open Go.RowKit Go.Lib Na Go.PN Pa

abbrev awF : Fo := .cons 2 ⟨#[97]⟩ .nil 0 0 .nil
def awQ : Fo := (Fo.cons 2 ⟨#[97]⟩ .nil 0 0 .nil).app (.cons 5 ⟨#[]⟩ (epsF.app (.cons 2 ⟨#[97]⟩ .nil 0 0 .nil)) 0 0 .nil)
theorem aw_check : checkE 9 ⟨#[]⟩ awF 1 2 = 0 := by decide +kernel
theorem aw_text : textT 9 ⟨#[]⟩ awF 1 2 = [97, 123, 49, 44, 50, 125] := by decide +kernel
theorem aw_parse : parseR [97, 123, 49, 44, 50, 125] = (.cons 9 ⟨#[]⟩ awF 1 2 .nil, 0) := by
  have h := parse_back aw_check
  rw [aw_text] at h
  exact h
theorem aw_plain : plainR 9 ⟨#[]⟩ awF 1 2 = (.cons 4 ⟨#[]⟩ awQ 0 0 .nil, 0) := by
  unfold plainR
  rw [if_pos aw_check]
  rfl
theorem aw_is : isB 4 ⟨#[]⟩ awQ 0 0 = true := by decide +kernel
theorem aw_not : isB 9 ⟨#[]⟩ awF 1 2 = false := by decide +kernel
theorem aw_null : NullB 9 ⟨#[]⟩ awF 1 2 = false := by decide +kernel
theorem aw_call (w : World) (hG : ErG w) : Calls Tryz.prog 32 #[.string ⟨#[97, 123, 49, 44, 50, 125]⟩] w fun e w' => ∃ (A : Option Addr) (c : Nat), e = .returned (.tuple #[.agg #[.int .i64 9, .string ⟨#[]⟩, .slice A 1 c, .int .i64 1, .int .i64 2], .int .i64 0]) ∧ Nd.ok w' [] ⟨9, ⟨#[]⟩, A, c, 1, 2, awF⟩ ∧ Below w.heap.size w w' := by
  refine (parse_any ⟨#[97, 123, 49, 44, 50, 125]⟩ w hG [] (fun x hx => by cases hx)).mono fun e w' ⟨⟨k, l, A, c, mn, mx, kids⟩, h1, h2, h3, h4⟩ => ?_
  have e : parseR (⟨#[97, 123, 49, 44, 50, 125]⟩ : ByteArray).data.toList = (.cons 9 ⟨#[]⟩ awF 1 2 .nil, 0) := aw_parse
  rw [e] at h1 h2
  have h2' : Fo.cons k l kids mn mx .nil = .cons 9 ⟨#[]⟩ awF 1 2 .nil := h2
  injection h2' with a1 a2 a3 a4 a5 _
  subst a1 a2 a3 a4 a5
  exact ⟨A, c, h1, h3, h4⟩
set_option maxRecDepth 100000 in
set_option maxHeartbeats 8000000 in
theorem awake_any (w : World) (hG : ErG w) : Calls Tryz.prog 10 #[] w fun e w' => e = .returned (.bool true) ∧ Below w.heap.size w w' := by
  have HP := Lib.hid (aw_call w hG)
  clear hG
  go_enter Tryz.func10, Tryz.ntmps10
  go_wp2_with (go_at_call 32; ((with_reducible refine (HP.out).mono ?_); rintro e w2 ⟨A, c, rfl, hok, hb2⟩; have HB2 := Lib.hid hb2; have HOK := Lib.hid hok; clear hok hb2))
  have HB3 := Lib.hid (HB2.out.alloc HB2.out.size (obj5 9 ⟨#[]⟩ A 1 c 1 2))
  have HX := Lib.hid (Bx.new w2 (.int .i64 9) (.string ⟨#[]⟩) (.slice A 1 c) (.int .i64 1) (.int .i64 2) 24)
  have HPL := Lib.hid (show ∀ w3, Below w2.heap.size w2 w3 → Calls Tryz.prog 11 #[.agg #[.int .i64 9, .string ⟨#[]⟩, .slice A 1 c, .int .i64 1, .int .i64 2]] w3 (PlainP w3 [] (.cons 4 ⟨#[]⟩ awQ 0 0 .nil, 0)) from fun w3 hb => by
    have h := Plain_any ⟨9, ⟨#[]⟩, A, c, 1, 2, awF⟩ [] w3 (HOK.out.below hb) (by unfold Nd.fo; simp [Bd]) (fun x hx => by cases hx)
    rw [show plainR (⟨9, ⟨#[]⟩, A, c, 1, 2, awF⟩ : Nd).k _ _ _ _ = _ from aw_plain] at h
    exact h)
  have HI2 := Lib.hid (show ∀ w3, Below w2.heap.size w2 w3 → Calls Tryz.prog 12 #[.agg #[.int .i64 9, .string ⟨#[]⟩, .slice A 1 c, .int .i64 1, .int .i64 2]] w3 fun e w' => e = .returned (.bool false) ∧ Below w3.heap.size w3 w' from fun w3 hb => by
    have h := Is_any ⟨9, ⟨#[]⟩, A, c, 1, 2, awF⟩ [] w3 (HOK.out.below hb)
    rw [show isB (⟨9, ⟨#[]⟩, A, c, 1, 2, awF⟩ : Nd).k _ _ _ _ = _ from aw_not] at h
    exact h)
  have HN2 := Lib.hid (show ∀ w3, Below w2.heap.size w2 w3 → Calls Tryz.prog 18 #[.agg #[.int .i64 9, .string ⟨#[]⟩, .slice A 1 c, .int .i64 1, .int .i64 2]] w3 fun e w' => e = .returned (.bool false) ∧ Below w3.heap.size w3 w' from fun w3 hb => by
    have h := Nullable_any ⟨9, ⟨#[]⟩, A, c, 1, 2, awF⟩ [] w3 (HOK.out.below hb) (by unfold Nd.fo; simp [Bd])
    rw [show NullB (⟨9, ⟨#[]⟩, A, c, 1, 2, awF⟩ : Nd).k _ _ _ _ = _ from aw_null] at h
    exact h)
  have HB23 := Lib.hid ((Below.refl _ w2).alloc (Nat.le_refl _) (obj5 9 ⟨#[]⟩ A 1 c 1 2))
  go_wp2_with (first
    | (go_at_call 11; (with_reducible refine (HPL.out _ HB23.out).mono ?_); rintro e w4 ⟨⟨k4, l4, A4, c4, mn4, mx4, d4⟩, rfl, hfo4, hok4, hb4⟩; have hfo5 : Fo.cons k4 l4 d4 mn4 mx4 .nil = Fo.cons 4 ⟨#[]⟩ awQ 0 0 .nil := hfo4; (injection hfo5 with a1 a2 a3 a4 a5 _); subst a1 a2 a3 a4 a5; have HO4 := Lib.hid hok4; have HB4 := Lib.hid hb4; clear hok4 hb4 hfo4))
  have HB5 := Lib.hid (bt HB23.out HB4.out HB23.out.size)
  have HX4 := Lib.hid (HX.out.below HB4.out)
  have HI4 := Lib.hid (show ∀ w3, Below w4.heap.size w4 w3 → Calls Tryz.prog 12 #[.agg #[.int .i64 4, .string ⟨#[]⟩, .slice A4 awQ.len c4, .int .i64 0, .int .i64 0]] w3 fun e w' => e = .returned (.bool true) ∧ Below w3.heap.size w3 w' from fun w3 hb => by
    have h := Is_any ⟨4, ⟨#[]⟩, A4, c4, 0, 0, awQ⟩ [] w3 (HO4.out.below hb)
    rw [show isB (⟨4, ⟨#[]⟩, A4, c4, 0, 0, awQ⟩ : Nd).k _ _ _ _ = _ from aw_is] at h
    exact h)
  have HB45 := Lib.hid ((Below.refl _ w4).alloc (Nat.le_refl _) (obj5 4 ⟨#[]⟩ A4 awQ.len c4 0 0))
  have HB25 := Lib.hid (bt HB5.out HB45.out HB5.out.size)
  have HX5 := Lib.hid (HX4.out.al (obj5 4 ⟨#[]⟩ A4 awQ.len c4 0 0))
  have HY5 := Lib.hid (Bx.new w4 (.int .i64 4) (.string ⟨#[]⟩) (.slice A4 awQ.len c4) (.int .i64 0) (.int .i64 0) 24)
  go_wp2_with (first
    | (go_at_call 12; (with_reducible refine (HI4.out _ HB45.out).mono ?_); rintro e w6 ⟨rfl, hb6⟩; have HB6 := Lib.hid (bt HB25.out hb6 HB25.out.size); obtain ⟨⟨x0, x1, x2, x3, x4⟩, y0, y1, y2, y3, y4⟩ := bx_all (HX5.out.below hb6); have HX6 := Lib.hid (HX5.out.below hb6); clear hb6; refine Hid.out ?_))
  refine Lib.hid ?_
  go_wp2_with (first
    | (go_at_call 12; (with_reducible refine (HI2.out _ HB6.out).mono ?_); rintro e w7 ⟨rfl, hb7⟩; have HB7 := Lib.hid (bt HB6.out hb7 HB6.out.size); obtain ⟨⟨p0, p1, p2, p3, p4⟩, q0, q1, q2, q3, q4⟩ := bx_all (HX6.out.below hb7); clear hb7)
    | (go_at_call 18; (with_reducible refine (HN2.out _ HB7.out).mono ?_); rintro e w8 ⟨rfl, hb8⟩; have HB8 := Lib.hid (bt HB7.out hb8 HB7.out.size); clear hb8))
  go_ret
  exact ⟨rfl, bt HB2.out HB8.out HB2.out.size⟩
end Go.Proofs.YtpaehicfndkliaaGreatDoor.De
