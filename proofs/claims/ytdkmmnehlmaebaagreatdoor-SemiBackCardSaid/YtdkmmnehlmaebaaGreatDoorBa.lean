/- Values' texts: 'Text' of a level and of a double. Conditions: the library's tables are laid; the values can be read. -/
import Derived.Test.YtdkmmnehlmaebaaGreatDoorSw
import Derived.Test.YtdkmmnehlmaebaaGreatDoorFo
namespace Go.Proofs.YtdkmmnehlmaebaaGreatDoor.Se
open Go.RowKit Go.NT Go.FT Go.FX Go.Lib Na

def txtM : Option Int → List UInt8
  | some v => decI v
  | none => [105, 110, 102]
/-- The bytes of a value's text. -/
def SV.txt (a : SV) : List UInt8 :=
  if natB a.s then txtM (mean a.b a.xs)
  else if levB a.s then itoa a.lv else T a.x
theorem strV_same (l : List UInt8) : Na.strV l = Go.Proofs.YtdkmmnehlmaebaaGreatDoor.strV l := rfl
theorem textM_txt (m : Option Int) : textM m = txtM m := by cases m <;> rfl
set_option maxRecDepth 100000 in
set_option maxHeartbeats 1000000 in
theorem text_lev (a : SV) (w : World) (ha : a.ok w) (hl : Lay w) (HM : Hid (a.may = 0)) (HN : Hid (natB a.s = false)) (HL : Hid (levB a.s = true)) (hv0 : -9223372036854775808 ≤ a.lv) (hv1 : a.lv ≤ 9223372036854775807) :
    Calls Tryz.prog 30 #[a.v] w fun e w' => e = .returned (Go.Proofs.YtdkmmnehlmaebaaGreatDoor.strV (itoa a.lv)) ∧ Below w.heap.size w w' := by
  have h0 := Lib.hid (below_al (Below.refl w.heap.size w) (.cells #[.int .i64 a.s, .bool a.b, .slice a.A a.n a.c, .int .i64 a.lv, .float .f64 a.x] 27))
  have hF := Lib.hid (five_new w a ha)
  have hT := Lib.hid (hl.below h0.out)
  clear ha hl
  unfold SV.v
  go_enter Tryz.func30, Tryz.ntmps30
  go_wp2_with (first
    | (go_at_call 21; (with_reducible refine (may_sv a _ hF.out.ok).mono ?_); rw [HM.out]; rintro e w1 ⟨rfl, hb1⟩; have HF := Lib.hid (hF.out.go hb1); have H1 := Lib.hid (below_go h0.out hb1); have HT := Lib.hid (hT.out.below hb1); obtain ⟨p0, p1, p2, p3, p4, p5, _⟩ := HF.out)
    | (go_at_call 49; (with_reducible refine (isNat_any a.s _).mono ?_); rw [HN.out]; rintro e w' ⟨rfl, rfl⟩)
    | (go_at_call 51; (with_reducible refine (isLevel_any a.s _).mono ?_); rw [HL.out]; rintro e w' ⟨rfl, rfl⟩)
    | (go_at_call 60; (with_reducible refine (itoa_any a.lv hv0 hv1 _ HT.out).mono ?_); rintro e w2 ⟨rfl, hb2⟩; have H2 := Lib.hid (below_go H1.out hb2)))
  go_ret
  exact ⟨rfl, H2.out⟩
set_option maxRecDepth 100000 in
set_option maxHeartbeats 1000000 in
theorem text_dbl (a : SV) (w : World) (ha : a.ok w) (hl : Lay w) (HM : Hid (a.may = 0)) (HN : Hid (natB a.s = false)) (HL : Hid (levB a.s = false)) :
    Calls Tryz.prog 30 #[a.v] w fun e w' => e = .returned (Go.Proofs.YtdkmmnehlmaebaaGreatDoor.strV (T a.x)) ∧ Below w.heap.size w w' := by
  have h0 := Lib.hid (below_al (Below.refl w.heap.size w) (.cells #[.int .i64 a.s, .bool a.b, .slice a.A a.n a.c, .int .i64 a.lv, .float .f64 a.x] 27))
  have hF := Lib.hid (five_new w a ha)
  have hT := Lib.hid (hl.below h0.out)
  have hx := ha.2
  clear ha hl
  unfold SV.v
  go_enter Tryz.func30, Tryz.ntmps30
  go_wp2_with (first
    | (go_at_call 21; (with_reducible refine (may_sv a _ hF.out.ok).mono ?_); rw [HM.out]; rintro e w1 ⟨rfl, hb1⟩; have HF := Lib.hid (hF.out.go hb1); have H1 := Lib.hid (below_go h0.out hb1); have HT := Lib.hid (hT.out.below hb1); obtain ⟨p0, p1, p2, p3, p4, p5, _⟩ := HF.out)
    | (go_at_call 49; (with_reducible refine (isNat_any a.s _).mono ?_); rw [HN.out]; rintro e w' ⟨rfl, rfl⟩)
    | (go_at_call 51; (with_reducible refine (isLevel_any a.s _).mono ?_); rw [HL.out]; rintro e w' ⟨rfl, rfl⟩)
    | (go_at_call 61; (with_reducible refine (Go.Proofs.YtdkmmnehlmaebaaGreatDoor.text_any a.x hx _ HT.out).mono ?_); rintro e w2 ⟨rfl, hb2⟩; have H2 := Lib.hid (below_go H1.out hb2)))
  go_ret
  exact ⟨rfl, H2.out⟩
set_option maxRecDepth 100000 in
set_option maxHeartbeats 1000000 in
theorem text_no (a : SV) (w : World) (ha : a.ok w) (M : Int) (hM : (M != 0) = true) (HM : Hid (a.may = M)) :
    Calls Tryz.prog 30 #[a.v] w fun e w' => e = .returned (.string ⟨#[]⟩) ∧ Below w.heap.size w w' := by
  have h0 := Lib.hid (below_al (Below.refl w.heap.size w) (.cells #[.int .i64 a.s, .bool a.b, .slice a.A a.n a.c, .int .i64 a.lv, .float .f64 a.x] 27))
  have hF := Lib.hid (five_new w a ha)
  clear ha
  unfold SV.v
  go_enter Tryz.func30, Tryz.ntmps30
  go_wp2_with (go_at_call 21; (with_reducible refine (may_sv a _ hF.out.ok).mono ?_); rw [HM.out]; rintro e w1 ⟨rfl, hb1⟩; have H1 := Lib.hid (below_go h0.out hb1))
  go_ret
  exact ⟨rfl, H1.out⟩
/-- A value's text. -/
theorem text_sv (a : SV) (w : World) (ha : a.ok w) (hn : a.n ≤ 1099511627776) (hl : Lay w) (HM : Hid (a.may = 0)) :
    Calls Tryz.prog 30 #[a.v] w fun e w' => e = .returned (Go.Proofs.YtdkmmnehlmaebaaGreatDoor.strV a.txt) ∧ Below w.heap.size w w' := by
  unfold SV.txt
  cases h1 : natB a.s
  · cases h2 : levB a.s
    · exact text_dbl a w ha hl HM (Lib.hid h1) (Lib.hid h2)
    · have h3 := lev_of_may HM.out h1 h2
      have h4 : topV a.s ≤ 7 := by unfold topV; split <;> decide
      exact text_lev a w ha hl HM (Lib.hid h1) (Lib.hid h2) (by omega) (by omega)
  · have := text_nat a w ha hn hl.tab HM (Lib.hid h1)
    rw [textM_txt] at this
    exact this
end Go.Proofs.YtdkmmnehlmaebaaGreatDoor.Se
