
/- The walks of 'plain' and 'Name'. No condition but on a name's length. -/
import Derived.Test.YtpaehicfndkliaaGreatDoorNWh
import Derived.Test.YtpaehicfndkliaaGreatDoorPN
import Derived.Test.YtpaehicfndkliaaGreatDoorRows
import Derived.Laws.BytesArg
import Derived.Deep.RegionHeld3
import Derived.LoopTactic
import Derived.Lib.Hide
import Derived.WalkSpells
import Derived.WalkLawsBesides
import Derived.WalkSmall
import Derived.Outline
namespace Go.Proofs.YtpaehicfndkliaaGreatDoor.Pa
open Go.RowKit Go.Lib Na Go.PN

abbrev bv (b : UInt8) : Value := .int .u8 (b.toNat : Int)
theorem infoU8 : (Tryz.prog.info? 5).map (fun i => (i.zero, i.size, i.bytes)) = some (some (.int .u8 0), 1, 1) := by kernel_rfl
theorem i5 : ∃ i, Tryz.prog.info? 5 = some i ∧ i.zero = some (Value.int .u8 0) ∧ i.size = 1 ∧ i.bytes = 1 := by
  have h := infoU8
  cases hi : Tryz.prog.info? 5 with
  | none => rw [hi] at h; cases h
  | some i =>
    rw [hi] at h
    simp only [Option.map_some, Option.some.injEq, Prod.mk.injEq] at h
    exact ⟨i, rfl, h.1, h.2.1, h.2.2⟩
set_option maxRecDepth 100000 in
set_option maxHeartbeats 2000000 in
theorem plain_int (c : Int) (V : Bool) (hV : V = ((decide (97 ≤ c) && decide (c ≤ 122)) || (decide (65 ≤ c) && decide (c ≤ 90)) || (decide (48 ≤ c) && decide (c ≤ 57)) || decide (c = 95))) (w : World) : Calls Tryz.prog 127 #[.int .u8 c] w fun e w' => e = .returned (.bool V) ∧ w' = w := by
  rcases (show (c < 48) ∨ (48 ≤ c ∧ c ≤ 57) ∨ (58 ≤ c ∧ c ≤ 64) ∨ (65 ≤ c ∧ c ≤ 90) ∨ (91 ≤ c ∧ c ≤ 94) ∨ (c = 95) ∨ (c = 96) ∨ (97 ≤ c ∧ c ≤ 122) ∨ (123 ≤ c) from by omega) with h | ⟨h, h2⟩ | ⟨h, h2⟩ | ⟨h, h2⟩ | ⟨h, h2⟩ | rfl | rfl | ⟨h, h2⟩ | h
  · have HV := Lib.hid (show V = false by rw [hV]; cases h1 : decide (97 ≤ c) <;> cases h2 : decide (c ≤ 122) <;> cases h3 : decide (65 ≤ c) <;> cases h4 : decide (c ≤ 90) <;> cases h5 : decide (48 ≤ c) <;> cases h6 : decide (c ≤ 57) <;> cases h7 : decide (c = 95) <;> simp only [decide_eq_true_iff, decide_eq_false_iff_not] at h1 h2 h3 h4 h5 h6 h7 <;> first | rfl | (exfalso; omega))
    clear hV
    have d0 : decide (97 ≤ c) = false := decide_eq_false (by omega)
    have d1 : decide (c ≤ 122) = true := decide_eq_true (by omega)
    have d2 : decide (65 ≤ c) = false := decide_eq_false (by omega)
    have d3 : decide (c ≤ 90) = true := decide_eq_true (by omega)
    have d4 : decide (48 ≤ c) = false := decide_eq_false (by omega)
    have d5 : decide (c ≤ 57) = true := decide_eq_true (by omega)
    have t95 : (c == 95) = false := by
      cases e : c == 95
      · rfl
      · have := eq_of_beq e; omega
    go_enter Tryz.func127, Tryz.ntmps127
    go_wp2
    go_ret
    exact ⟨by rw [HV.out]; rfl, rfl⟩
  · have HV := Lib.hid (show V = true by rw [hV]; cases h1 : decide (97 ≤ c) <;> cases h2 : decide (c ≤ 122) <;> cases h3 : decide (65 ≤ c) <;> cases h4 : decide (c ≤ 90) <;> cases h5 : decide (48 ≤ c) <;> cases h6 : decide (c ≤ 57) <;> cases h7 : decide (c = 95) <;> simp only [decide_eq_true_iff, decide_eq_false_iff_not] at h1 h2 h3 h4 h5 h6 h7 <;> first | rfl | (exfalso; omega))
    clear hV
    have d0 : decide (97 ≤ c) = false := decide_eq_false (by omega)
    have d1 : decide (c ≤ 122) = true := decide_eq_true (by omega)
    have d2 : decide (65 ≤ c) = false := decide_eq_false (by omega)
    have d3 : decide (c ≤ 90) = true := decide_eq_true (by omega)
    have d4 : decide (48 ≤ c) = true := decide_eq_true (by omega)
    have d5 : decide (c ≤ 57) = true := decide_eq_true (by omega)
    have t95 : (c == 95) = false := by
      cases e : c == 95
      · rfl
      · have := eq_of_beq e; omega
    go_enter Tryz.func127, Tryz.ntmps127
    go_wp2
    go_ret
    exact ⟨by rw [HV.out]; rfl, rfl⟩
  · have HV := Lib.hid (show V = false by rw [hV]; cases h1 : decide (97 ≤ c) <;> cases h2 : decide (c ≤ 122) <;> cases h3 : decide (65 ≤ c) <;> cases h4 : decide (c ≤ 90) <;> cases h5 : decide (48 ≤ c) <;> cases h6 : decide (c ≤ 57) <;> cases h7 : decide (c = 95) <;> simp only [decide_eq_true_iff, decide_eq_false_iff_not] at h1 h2 h3 h4 h5 h6 h7 <;> first | rfl | (exfalso; omega))
    clear hV
    have d0 : decide (97 ≤ c) = false := decide_eq_false (by omega)
    have d1 : decide (c ≤ 122) = true := decide_eq_true (by omega)
    have d2 : decide (65 ≤ c) = false := decide_eq_false (by omega)
    have d3 : decide (c ≤ 90) = true := decide_eq_true (by omega)
    have d4 : decide (48 ≤ c) = true := decide_eq_true (by omega)
    have d5 : decide (c ≤ 57) = false := decide_eq_false (by omega)
    have t95 : (c == 95) = false := by
      cases e : c == 95
      · rfl
      · have := eq_of_beq e; omega
    go_enter Tryz.func127, Tryz.ntmps127
    go_wp2
    go_ret
    exact ⟨by rw [HV.out]; rfl, rfl⟩
  · have HV := Lib.hid (show V = true by rw [hV]; cases h1 : decide (97 ≤ c) <;> cases h2 : decide (c ≤ 122) <;> cases h3 : decide (65 ≤ c) <;> cases h4 : decide (c ≤ 90) <;> cases h5 : decide (48 ≤ c) <;> cases h6 : decide (c ≤ 57) <;> cases h7 : decide (c = 95) <;> simp only [decide_eq_true_iff, decide_eq_false_iff_not] at h1 h2 h3 h4 h5 h6 h7 <;> first | rfl | (exfalso; omega))
    clear hV
    have d0 : decide (97 ≤ c) = false := decide_eq_false (by omega)
    have d1 : decide (c ≤ 122) = true := decide_eq_true (by omega)
    have d2 : decide (65 ≤ c) = true := decide_eq_true (by omega)
    have d3 : decide (c ≤ 90) = true := decide_eq_true (by omega)
    have d4 : decide (48 ≤ c) = true := decide_eq_true (by omega)
    have d5 : decide (c ≤ 57) = false := decide_eq_false (by omega)
    have t95 : (c == 95) = false := by
      cases e : c == 95
      · rfl
      · have := eq_of_beq e; omega
    go_enter Tryz.func127, Tryz.ntmps127
    go_wp2
    go_ret
    exact ⟨by rw [HV.out]; rfl, rfl⟩
  · have HV := Lib.hid (show V = false by rw [hV]; cases h1 : decide (97 ≤ c) <;> cases h2 : decide (c ≤ 122) <;> cases h3 : decide (65 ≤ c) <;> cases h4 : decide (c ≤ 90) <;> cases h5 : decide (48 ≤ c) <;> cases h6 : decide (c ≤ 57) <;> cases h7 : decide (c = 95) <;> simp only [decide_eq_true_iff, decide_eq_false_iff_not] at h1 h2 h3 h4 h5 h6 h7 <;> first | rfl | (exfalso; omega))
    clear hV
    have d0 : decide (97 ≤ c) = false := decide_eq_false (by omega)
    have d1 : decide (c ≤ 122) = true := decide_eq_true (by omega)
    have d2 : decide (65 ≤ c) = true := decide_eq_true (by omega)
    have d3 : decide (c ≤ 90) = false := decide_eq_false (by omega)
    have d4 : decide (48 ≤ c) = true := decide_eq_true (by omega)
    have d5 : decide (c ≤ 57) = false := decide_eq_false (by omega)
    have t95 : (c == 95) = false := by
      cases e : c == 95
      · rfl
      · have := eq_of_beq e; omega
    go_enter Tryz.func127, Tryz.ntmps127
    go_wp2
    go_ret
    exact ⟨by rw [HV.out]; rfl, rfl⟩
  · have HV := Lib.hid (show V = true by rw [hV]; decide)
    clear hV
    go_enter Tryz.func127, Tryz.ntmps127
    go_wp2
    go_ret
    exact ⟨by rw [HV.out]; rfl, rfl⟩
  · have HV := Lib.hid (show V = false by rw [hV]; decide)
    clear hV
    go_enter Tryz.func127, Tryz.ntmps127
    go_wp2
    go_ret
    exact ⟨by rw [HV.out]; rfl, rfl⟩
  · have HV := Lib.hid (show V = true by rw [hV]; cases h1 : decide (97 ≤ c) <;> cases h2 : decide (c ≤ 122) <;> cases h3 : decide (65 ≤ c) <;> cases h4 : decide (c ≤ 90) <;> cases h5 : decide (48 ≤ c) <;> cases h6 : decide (c ≤ 57) <;> cases h7 : decide (c = 95) <;> simp only [decide_eq_true_iff, decide_eq_false_iff_not] at h1 h2 h3 h4 h5 h6 h7 <;> first | rfl | (exfalso; omega))
    clear hV
    have d0 : decide (97 ≤ c) = true := decide_eq_true (by omega)
    have d1 : decide (c ≤ 122) = true := decide_eq_true (by omega)
    have d2 : decide (65 ≤ c) = true := decide_eq_true (by omega)
    have d3 : decide (c ≤ 90) = false := decide_eq_false (by omega)
    have d4 : decide (48 ≤ c) = true := decide_eq_true (by omega)
    have d5 : decide (c ≤ 57) = false := decide_eq_false (by omega)
    have t95 : (c == 95) = false := by
      cases e : c == 95
      · rfl
      · have := eq_of_beq e; omega
    go_enter Tryz.func127, Tryz.ntmps127
    go_wp2
    go_ret
    exact ⟨by rw [HV.out]; rfl, rfl⟩
  · have HV := Lib.hid (show V = false by rw [hV]; cases h1 : decide (97 ≤ c) <;> cases h2 : decide (c ≤ 122) <;> cases h3 : decide (65 ≤ c) <;> cases h4 : decide (c ≤ 90) <;> cases h5 : decide (48 ≤ c) <;> cases h6 : decide (c ≤ 57) <;> cases h7 : decide (c = 95) <;> simp only [decide_eq_true_iff, decide_eq_false_iff_not] at h1 h2 h3 h4 h5 h6 h7 <;> first | rfl | (exfalso; omega))
    clear hV
    have d0 : decide (97 ≤ c) = true := decide_eq_true (by omega)
    have d1 : decide (c ≤ 122) = false := decide_eq_false (by omega)
    have d2 : decide (65 ≤ c) = true := decide_eq_true (by omega)
    have d3 : decide (c ≤ 90) = false := decide_eq_false (by omega)
    have d4 : decide (48 ≤ c) = true := decide_eq_true (by omega)
    have d5 : decide (c ≤ 57) = false := decide_eq_false (by omega)
    have t95 : (c == 95) = false := by
      cases e : c == 95
      · rfl
      · have := eq_of_beq e; omega
    go_enter Tryz.func127, Tryz.ntmps127
    go_wp2
    go_ret
    exact ⟨by rw [HV.out]; rfl, rfl⟩
theorem plain_any (b : UInt8) (w : World) : Calls Tryz.prog 127 #[.int .u8 (b.toNat : Int)] w fun e w' => e = .returned (.bool (plainB b)) ∧ w' = w := by
  have e : ((decide (97 ≤ (b.toNat : Int)) && decide ((b.toNat : Int) ≤ 122)) || (decide (65 ≤ (b.toNat : Int)) && decide ((b.toNat : Int) ≤ 90)) || (decide (48 ≤ (b.toNat : Int)) && decide ((b.toNat : Int) ≤ 57)) || decide ((b.toNat : Int) = 95)) = plainB b := by
    unfold plainB
    congr 1
    · congr 1
      · congr 1
        · congr 1 <;> rw [decide_eq_decide] <;> omega
        · congr 1 <;> rw [decide_eq_decide] <;> omega
      · congr 1 <;> rw [decide_eq_decide] <;> omega
    · rw [decide_eq_decide]; omega
  exact plain_int (b.toNat : Int) _ e.symm w
end Go.Proofs.YtpaehicfndkliaaGreatDoor.Pa
