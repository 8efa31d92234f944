/- The walk of the law's 'awake'. Condition: the library's two errors can be read. -/
import Derived.Test.YthbodojhddmbhaaDoorRa
namespace Go.Proofs.YthbodojhddmbhaaDoor.Pa
open Go.RowKit Go.Lib Na Go.PN

def awK : Fo := .cons 6 ⟨#[]⟩ (.cons 2 ⟨#[107, 110, 111, 119, 115]⟩ .nil 0 0 .nil) 0 0 (.cons 3 ⟨#[108, 105, 107, 101, 115]⟩ .nil 0 0 .nil)
def awL : List UInt8 := [107, 110, 111, 119, 115, 42, 47, 94, 108, 105, 107, 101, 115]
theorem aw_check : checkE 4 ⟨#[]⟩ awK 0 0 = 0 := by decide +kernel
theorem aw_text : textT 4 ⟨#[]⟩ awK 0 0 = awL := by decide +kernel
theorem aw_parse : parseR awL = (.cons 4 ⟨#[]⟩ awK 0 0 .nil, 0) := by
  have h := parse_back aw_check
  rw [aw_text] at h
  exact h
theorem aw_name : nameT [97, 32, 98] = [60, 97, 32, 98, 62] := by decide +kernel
theorem aw_none : checkE 0 ⟨#[]⟩ .nil 0 0 = 1 := by decide +kernel
theorem aw_call (w : World) (hG : ErG w) : Calls Tryd.prog 15 #[.string ⟨#[107, 110, 111, 119, 115, 42, 47, 94, 108, 105, 107, 101, 115]⟩] w fun e w' => ∃ (A : Option Addr) (c : Nat), e = .returned (.tuple #[.agg #[.int .i64 4, .string ⟨#[]⟩, .slice A 2 c, .int .i64 0, .int .i64 0], .int .i64 0]) ∧ Nd.ok w' [] ⟨4, ⟨#[]⟩, A, c, 0, 0, awK⟩ ∧ Below w.heap.size w w' := by
  refine (parse_any ⟨#[107, 110, 111, 119, 115, 42, 47, 94, 108, 105, 107, 101, 115]⟩ w hG [] (fun x hx => by cases hx)).mono fun e w' ⟨⟨k, l, A, c, mn, mx, kids⟩, h1, h2, h3, h4⟩ => ?_
  have e : parseR (⟨#[107, 110, 111, 119, 115, 42, 47, 94, 108, 105, 107, 101, 115]⟩ : ByteArray).data.toList = (.cons 4 ⟨#[]⟩ awK 0 0 .nil, 0) := aw_parse
  rw [e] at h1 h2
  have h2' : Fo.cons k l kids mn mx .nil = .cons 4 ⟨#[]⟩ awK 0 0 .nil := h2
  injection h2' with a1 a2 a3 a4 a5 _
  subst a1 a2 a3 a4 a5
  exact ⟨A, c, h1, h3, h4⟩
set_option maxRecDepth 100000 in
set_option maxHeartbeats 8000000 in
theorem awake_any (w : World) (hG : ErG w) : Calls Tryd.prog 8 #[] w fun e w' => e = .returned (.bool true) ∧ Below w.heap.size w w' := by
  have HP := Lib.hid (aw_call w hG)
  have HN : Hid (∀ w1 : World, Calls Tryd.prog 9 #[.string ⟨#[97, 32, 98]⟩] w1 fun e w' => e = .returned (.string ⟨#[60, 97, 32, 98, 62]⟩) ∧ Below w1.heap.size w1 w') := fun w1 => (name_any ⟨#[97, 32, 98]⟩ w1 (by show 3 ≤ _; decide)).mono fun e w' h => ⟨h.1.trans (by rw [show (⟨#[97, 32, 98]⟩ : ByteArray).data.toList = [97, 32, 98] from rfl, aw_name]), h.2⟩
  have HC : Hid (∀ w1 : World, Calls Tryd.prog 11 #[.agg #[.int .i64 0, .string ⟨#[]⟩, .slice none 0 0, .int .i64 0, .int .i64 0]] w1 fun e w' => e = .returned (.int .i64 1) ∧ Below w1.heap.size w1 w') := fun w1 => (check_any ⟨0, ⟨#[]⟩, none, 0, 0, 0, .nil⟩ [] w1 (zero_ok _ _) (by simp [Bd, Nd.fo])).mono fun e w' h => ⟨h.1.trans (by rw [aw_none]), h.2⟩
  have tq : ((⟨#[107, 110, 111, 119, 115, 42, 47, 94, 108, 105, 107, 101, 115]⟩ : ByteArray).toList == (⟨#[107, 110, 111, 119, 115, 42, 47, 94, 108, 105, 107, 101, 115]⟩ : ByteArray).toList) = true := beq_self_eq_true _
  have tn : ((⟨#[60, 97, 32, 98, 62]⟩ : ByteArray).toList == (⟨#[60, 97, 32, 98, 62]⟩ : ByteArray).toList) = true := beq_self_eq_true _
  clear hG
  go_enter Tryd.func8, Tryd.ntmps8
  go_wp2_with (go_at_call 15; ((with_reducible refine (HP.out).mono ?_); rintro e w2 ⟨A, c, rfl, hok, hb2⟩; have HB2 := Lib.hid hb2; have HOK := Lib.hid hok; clear hok hb2))
  have HX := Lib.hid (Bx.new w2 (.int .i64 4) (.string ⟨#[]⟩) (.slice A 2 c) (.int .i64 0) (.int .i64 0) 27)
  have HT : Hid (∀ w1 : World, Below w2.heap.size w2 w1 → Calls Tryd.prog 12 #[.agg #[.int .i64 4, .string ⟨#[]⟩, .slice A 2 c, .int .i64 0, .int .i64 0]] w1 fun e w' => e = .returned (.string ⟨#[107, 110, 111, 119, 115, 42, 47, 94, 108, 105, 107, 101, 115]⟩) ∧ Below w1.heap.size w1 w') := fun w1 hb => (Text_any ⟨4, ⟨#[]⟩, A, c, 0, 0, awK⟩ [] w1 (HOK.out.below hb) (by unfold Nd.fo awK; simp [Bd])).mono fun e w' h => ⟨h.1.trans (by rw [aw_text]; rfl), h.2⟩
  go_wp2_with (first
    | (go_at_call 12; (with_reducible refine (HT.out _ ((Below.refl _ _).alloc (Nat.le_refl _) _)).mono ?_); rintro e w3 ⟨rfl, hb3⟩; have HX3 := Lib.hid (HX.out.below hb3); have HB3 := Lib.hid ((HB2.out.alloc HB2.out.size _).trans (hb3.mono (HB2.out.alloc HB2.out.size _).size)); clear hb3; have x0 := HX3.out.c0; have x1 := HX3.out.c1; have x2 := HX3.out.c2; have x3 := HX3.out.c3; have x4 := HX3.out.c4)
    | (go_at_call 9; (with_reducible refine (HN.out _).mono ?_); rintro e w4 ⟨rfl, hb4⟩; have HB4 := Lib.hid (HB3.out.trans (hb4.mono HB3.out.size)); clear hb4)
    | (go_at_call 11; (with_reducible refine (HC.out _).mono ?_); rintro e w5 ⟨rfl, hb5⟩; have HB5 := Lib.hid (HB4.out.trans (hb5.mono HB4.out.size)); clear hb5))
  go_ret
  exact ⟨rfl, HB5.out⟩
end Go.Proofs.YthbodojhddmbhaaDoor.Pa
