
/- The walk of 'text', of a path of each kind. Condition: the tree can be read, its texts are not too long. -/
import Derived.Test.YtpaehicfndkliaaGreatDoorPu
namespace Go.Proofs.YtpaehicfndkliaaGreatDoor.Pa
open Go.RowKit Go.Lib Na Go.PN

/-- The texts of a path's kids are written. -/
def JC (w : World) (kids : Fo) (A : Option Addr) (c : Nat) : Prop := ∀ (q : Int) (sep : List UInt8) (w1 : World), Below w.heap.size w w1 → (q = 1 ∨ q = 2) → sep.length ≤ 1 →
    Calls Tryz.prog 122 #[.slice A kids.len c, .int .i64 q, .string ⟨sep.toArray⟩] w1 fun e w' => e = .returned (strV (Lib.join (tx kids q) sep)) ∧ Below w1.heap.size w1 w'
theorem bytes2 (a b : List UInt8) : (⟨a.toArray⟩ : ByteArray) ++ ⟨b.toArray⟩ = ⟨(a ++ b).toArray⟩ := by apply ByteArray.ext; simp
set_option maxRecDepth 100000 in
set_option maxHeartbeats 4000000 in
theorem text_2 (l : ByteArray) (A : Option Addr) (c : Nat) (mn mx : Int) (kids : Fo) (p : Int) (w : World) (hb : p ≤ bnd 2) (hwt : (Fo.cons 2 l kids mn mx .nil).wt ≤ 1000000) (hvd : Vd (.cons 2 l kids mn mx .nil)) (HJ : Hid (JC w kids A c)) :
    Calls Tryz.prog 110 #[.agg #[.int .i64 2, .string l, .slice A kids.len c, .int .i64 mn, .int .i64 mx], .int .i64 p] w fun e w' => e = .returned (strV (bodyN 2 l kids mn mx)) ∧ Below w.heap.size w w' := by
  have HB := Lib.hid (fun w => bnd_any 2 w)
  have td : decide (bnd 2 < p) = false := decide_eq_false (by omega)
  have HB1 := Lib.hid (fun o => (Below.refl _ w).alloc (Nat.le_refl _) o)
  generalize bnd 2 = B at *
  have hl : l.size ≤ 1000000 := by simp only [Fo.wt, true_or, or_true, if_true] at hwt; omega
  have HN := Lib.hid (fun w => name_any l w hl)
  have hnl := (nameT_len l.data.toList).2
  rw [show l.data.toList.length = l.size from by simp] at hnl
  have hE := Lib.hid (show bodyN 2 l kids mn mx = nameT l.data.toList from rfl)
  clear hwt hvd HJ
  generalize nameT l.data.toList = t at *
  have hs1 : ¬ 9223372036854775807 < 1 + t.length := by omega
  go_enter Tryz.func110, Tryz.ntmps110
  go_wp2_with (first | (go_at_call 120; (with_reducible refine (HB.out _).mono ?_); rintro e w2 ⟨rfl, rfl⟩) | (go_at_call 121; (with_reducible refine (HN.out _).mono ?_); rintro e w3 ⟨rfl, hb3⟩))
  go_ret
  exact ⟨by rw [hE.out]; rfl, (HB1.out _).trans (hb3.mono (HB1.out _).size)⟩
set_option maxRecDepth 100000 in
set_option maxHeartbeats 4000000 in
theorem text_3 (l : ByteArray) (A : Option Addr) (c : Nat) (mn mx : Int) (kids : Fo) (p : Int) (w : World) (hb : p ≤ bnd 3) (hwt : (Fo.cons 3 l kids mn mx .nil).wt ≤ 1000000) (hvd : Vd (.cons 3 l kids mn mx .nil)) (HJ : Hid (JC w kids A c)) :
    Calls Tryz.prog 110 #[.agg #[.int .i64 3, .string l, .slice A kids.len c, .int .i64 mn, .int .i64 mx], .int .i64 p] w fun e w' => e = .returned (strV (bodyN 3 l kids mn mx)) ∧ Below w.heap.size w w' := by
  have HB := Lib.hid (fun w => bnd_any 3 w)
  have td : decide (bnd 3 < p) = false := decide_eq_false (by omega)
  have HB1 := Lib.hid (fun o => (Below.refl _ w).alloc (Nat.le_refl _) o)
  generalize bnd 3 = B at *
  have hl : l.size ≤ 1000000 := by simp only [Fo.wt, true_or, or_true, if_true] at hwt; omega
  have HN := Lib.hid (fun w => name_any l w hl)
  have hnl := (nameT_len l.data.toList).2
  rw [show l.data.toList.length = l.size from by simp] at hnl
  have hE := Lib.hid (show bodyN 3 l kids mn mx = 94 :: nameT l.data.toList from rfl)
  clear hwt hvd HJ
  generalize nameT l.data.toList = t at *
  have hs1 : ¬ 9223372036854775807 < 1 + t.length := by omega
  go_enter Tryz.func110, Tryz.ntmps110
  go_wp2_with (first | (go_at_call 120; (with_reducible refine (HB.out _).mono ?_); rintro e w2 ⟨rfl, rfl⟩) | (go_at_call 121; (with_reducible refine (HN.out _).mono ?_); rintro e w3 ⟨rfl, hb3⟩))
  go_ret
  exact ⟨by rw [hE.out]; exact congrArg (fun z => Ending.returned (Value.string z)) (bytes2 [94] t), (HB1.out _).trans (hb3.mono (HB1.out _).size)⟩
set_option maxRecDepth 100000 in
set_option maxHeartbeats 4000000 in
theorem text_4 (l : ByteArray) (A : Option Addr) (c : Nat) (mn mx : Int) (kids : Fo) (p : Int) (w : World) (hb : p ≤ bnd 4) (hwt : (Fo.cons 4 l kids mn mx .nil).wt ≤ 1000000) (hvd : Vd (.cons 4 l kids mn mx .nil)) (HJ : Hid (JC w kids A c)) :
    Calls Tryz.prog 110 #[.agg #[.int .i64 4, .string l, .slice A kids.len c, .int .i64 mn, .int .i64 mx], .int .i64 p] w fun e w' => e = .returned (strV (bodyN 4 l kids mn mx)) ∧ Below w.heap.size w w' := by
  have HB := Lib.hid (fun w => bnd_any 4 w)
  have td : decide (bnd 4 < p) = false := decide_eq_false (by omega)
  have HB1 := Lib.hid (fun o => (Below.refl _ w).alloc (Nat.le_refl _) o)
  generalize bnd 4 = B at *
  have hE := Lib.hid (show bodyN 4 l kids mn mx = Lib.join (tx kids 2) [47] from rfl)
  have hjl := Nat.le_trans (join_le (tx kids 2) [47] (by simp)) (lens1_tx kids 2 hvd.2.1)
  have hjw : (Lib.join (tx kids 2) [47]).length ≤ 1000000 := by simp only [Fo.wt] at hwt; omega
  have HJ1 := Lib.hid (HJ.out 2 [47] _ (HB1.out (.cells #[.int .i64 4, .string l, .slice A kids.len c, .int .i64 mn, .int .i64 mx] 24)) (by omega) (by simp))
  clear hwt hvd HJ hjl
  generalize Lib.join (tx kids 2) [47] = t at *
  have hs1 : ¬ 9223372036854775807 < t.length + 1 := by omega
  go_enter Tryz.func110, Tryz.ntmps110
  go_wp2_with (first | (go_at_call 120; (with_reducible refine (HB.out _).mono ?_); rintro e w2 ⟨rfl, rfl⟩) | (go_at_call 122; (with_reducible refine (HJ1.out).mono ?_); rintro e w3 ⟨rfl, hb3⟩))
  go_ret
  exact ⟨by rw [hE.out]; rfl, (HB1.out _).trans (hb3.mono (HB1.out _).size)⟩
set_option maxRecDepth 100000 in
set_option maxHeartbeats 4000000 in
theorem text_5 (l : ByteArray) (A : Option Addr) (c : Nat) (mn mx : Int) (kids : Fo) (p : Int) (w : World) (hb : p ≤ bnd 5) (hwt : (Fo.cons 5 l kids mn mx .nil).wt ≤ 1000000) (hvd : Vd (.cons 5 l kids mn mx .nil)) (HJ : Hid (JC w kids A c)) :
    Calls Tryz.prog 110 #[.agg #[.int .i64 5, .string l, .slice A kids.len c, .int .i64 mn, .int .i64 mx], .int .i64 p] w fun e w' => e = .returned (strV (bodyN 5 l kids mn mx)) ∧ Below w.heap.size w w' := by
  have HB := Lib.hid (fun w => bnd_any 5 w)
  have td : decide (bnd 5 < p) = false := decide_eq_false (by omega)
  have HB1 := Lib.hid (fun o => (Below.refl _ w).alloc (Nat.le_refl _) o)
  generalize bnd 5 = B at *
  have hE := Lib.hid (show bodyN 5 l kids mn mx = Lib.join (tx kids 1) [124] from rfl)
  have hjl := Nat.le_trans (join_le (tx kids 1) [124] (by simp)) (lens1_tx kids 1 hvd.2.1)
  have hjw : (Lib.join (tx kids 1) [124]).length ≤ 1000000 := by simp only [Fo.wt] at hwt; omega
  have HJ1 := Lib.hid (HJ.out 1 [124] _ (HB1.out (.cells #[.int .i64 5, .string l, .slice A kids.len c, .int .i64 mn, .int .i64 mx] 24)) (by omega) (by simp))
  clear hwt hvd HJ hjl
  generalize Lib.join (tx kids 1) [124] = t at *
  have hs1 : ¬ 9223372036854775807 < t.length + 1 := by omega
  go_enter Tryz.func110, Tryz.ntmps110
  go_wp2_with (first | (go_at_call 120; (with_reducible refine (HB.out _).mono ?_); rintro e w2 ⟨rfl, rfl⟩) | (go_at_call 122; (with_reducible refine (HJ1.out).mono ?_); rintro e w3 ⟨rfl, hb3⟩))
  go_ret
  exact ⟨by rw [hE.out]; rfl, (HB1.out _).trans (hb3.mono (HB1.out _).size)⟩
set_option maxRecDepth 100000 in
set_option maxHeartbeats 4000000 in
theorem text_6 (l : ByteArray) (A : Option Addr) (c : Nat) (mn mx : Int) (kids : Fo) (p : Int) (w : World) (hb : p ≤ bnd 6) (hwt : (Fo.cons 6 l kids mn mx .nil).wt ≤ 1000000) (hvd : Vd (.cons 6 l kids mn mx .nil)) (HJ : Hid (JC w kids A c)) :
    Calls Tryz.prog 110 #[.agg #[.int .i64 6, .string l, .slice A kids.len c, .int .i64 mn, .int .i64 mx], .int .i64 p] w fun e w' => e = .returned (strV (bodyN 6 l kids mn mx)) ∧ Below w.heap.size w w' := by
  have HB := Lib.hid (fun w => bnd_any 6 w)
  have td : decide (bnd 6 < p) = false := decide_eq_false (by omega)
  have HB1 := Lib.hid (fun o => (Below.refl _ w).alloc (Nat.le_refl _) o)
  generalize bnd 6 = B at *
  have hE := Lib.hid (show bodyN 6 l kids mn mx = Lib.join (tx kids 2) [] ++ [42] from rfl)
  have hjl := Nat.le_trans (join_le (tx kids 2) [] (by simp)) (lens1_tx kids 2 hvd.2.1)
  have hjw : (Lib.join (tx kids 2) []).length ≤ 1000000 := by simp only [Fo.wt] at hwt; omega
  have HJ1 := Lib.hid (HJ.out 2 [] _ (HB1.out (.cells #[.int .i64 6, .string l, .slice A kids.len c, .int .i64 mn, .int .i64 mx] 24)) (by omega) (by simp))
  clear hwt hvd HJ hjl
  generalize Lib.join (tx kids 2) [] = t at *
  have hs1 : ¬ 9223372036854775807 < t.length + 1 := by omega
  go_enter Tryz.func110, Tryz.ntmps110
  go_wp2_with (first | (go_at_call 120; (with_reducible refine (HB.out _).mono ?_); rintro e w2 ⟨rfl, rfl⟩) | (go_at_call 122; (with_reducible refine (HJ1.out).mono ?_); rintro e w3 ⟨rfl, hb3⟩))
  go_ret
  exact ⟨by rw [hE.out]; exact congrArg (fun z => Ending.returned (Value.string z)) (bytes2 t [42]), (HB1.out _).trans (hb3.mono (HB1.out _).size)⟩
set_option maxRecDepth 100000 in
set_option maxHeartbeats 4000000 in
theorem text_7 (l : ByteArray) (A : Option Addr) (c : Nat) (mn mx : Int) (kids : Fo) (p : Int) (w : World) (hb : p ≤ bnd 7) (hwt : (Fo.cons 7 l kids mn mx .nil).wt ≤ 1000000) (hvd : Vd (.cons 7 l kids mn mx .nil)) (HJ : Hid (JC w kids A c)) :
    Calls Tryz.prog 110 #[.agg #[.int .i64 7, .string l, .slice A kids.len c, .int .i64 mn, .int .i64 mx], .int .i64 p] w fun e w' => e = .returned (strV (bodyN 7 l kids mn mx)) ∧ Below w.heap.size w w' := by
  have HB := Lib.hid (fun w => bnd_any 7 w)
  have td : decide (bnd 7 < p) = false := decide_eq_false (by omega)
  have HB1 := Lib.hid (fun o => (Below.refl _ w).alloc (Nat.le_refl _) o)
  generalize bnd 7 = B at *
  have hE := Lib.hid (show bodyN 7 l kids mn mx = Lib.join (tx kids 2) [] ++ [43] from rfl)
  have hjl := Nat.le_trans (join_le (tx kids 2) [] (by simp)) (lens1_tx kids 2 hvd.2.1)
  have hjw : (Lib.join (tx kids 2) []).length ≤ 1000000 := by simp only [Fo.wt] at hwt; omega
  have HJ1 := Lib.hid (HJ.out 2 [] _ (HB1.out (.cells #[.int .i64 7, .string l, .slice A kids.len c, .int .i64 mn, .int .i64 mx] 24)) (by omega) (by simp))
  clear hwt hvd HJ hjl
  generalize Lib.join (tx kids 2) [] = t at *
  have hs1 : ¬ 9223372036854775807 < t.length + 1 := by omega
  go_enter Tryz.func110, Tryz.ntmps110
  go_wp2_with (first | (go_at_call 120; (with_reducible refine (HB.out _).mono ?_); rintro e w2 ⟨rfl, rfl⟩) | (go_at_call 122; (with_reducible refine (HJ1.out).mono ?_); rintro e w3 ⟨rfl, hb3⟩))
  go_ret
  exact ⟨by rw [hE.out]; exact congrArg (fun z => Ending.returned (Value.string z)) (bytes2 t [43]), (HB1.out _).trans (hb3.mono (HB1.out _).size)⟩
set_option maxRecDepth 100000 in
set_option maxHeartbeats 4000000 in
theorem text_8 (l : ByteArray) (A : Option Addr) (c : Nat) (mn mx : Int) (kids : Fo) (p : Int) (w : World) (hb : p ≤ bnd 8) (hwt : (Fo.cons 8 l kids mn mx .nil).wt ≤ 1000000) (hvd : Vd (.cons 8 l kids mn mx .nil)) (HJ : Hid (JC w kids A c)) :
    Calls Tryz.prog 110 #[.agg #[.int .i64 8, .string l, .slice A kids.len c, .int .i64 mn, .int .i64 mx], .int .i64 p] w fun e w' => e = .returned (strV (bodyN 8 l kids mn mx)) ∧ Below w.heap.size w w' := by
  have HB := Lib.hid (fun w => bnd_any 8 w)
  have td : decide (bnd 8 < p) = false := decide_eq_false (by omega)
  have HB1 := Lib.hid (fun o => (Below.refl _ w).alloc (Nat.le_refl _) o)
  generalize bnd 8 = B at *
  have hE := Lib.hid (show bodyN 8 l kids mn mx = Lib.join (tx kids 2) [] ++ [63] from rfl)
  have hjl := Nat.le_trans (join_le (tx kids 2) [] (by simp)) (lens1_tx kids 2 hvd.2.1)
  have hjw : (Lib.join (tx kids 2) []).length ≤ 1000000 := by simp only [Fo.wt] at hwt; omega
  have HJ1 := Lib.hid (HJ.out 2 [] _ (HB1.out (.cells #[.int .i64 8, .string l, .slice A kids.len c, .int .i64 mn, .int .i64 mx] 24)) (by omega) (by simp))
  clear hwt hvd HJ hjl
  generalize Lib.join (tx kids 2) [] = t at *
  have hs1 : ¬ 9223372036854775807 < t.length + 1 := by omega
  go_enter Tryz.func110, Tryz.ntmps110
  go_wp2_with (first | (go_at_call 120; (with_reducible refine (HB.out _).mono ?_); rintro e w2 ⟨rfl, rfl⟩) | (go_at_call 122; (with_reducible refine (HJ1.out).mono ?_); rintro e w3 ⟨rfl, hb3⟩))
  go_ret
  exact ⟨by rw [hE.out]; exact congrArg (fun z => Ending.returned (Value.string z)) (bytes2 t [63]), (HB1.out _).trans (hb3.mono (HB1.out _).size)⟩
set_option maxRecDepth 100000 in
set_option maxHeartbeats 4000000 in
theorem text_0 (k : Int) (l : ByteArray) (A : Option Addr) (c : Nat) (mn mx : Int) (kids : Fo) (p : Int) (w : World) (hb : p ≤ bnd k)  (hk : k < 2 ∨ 9 < k) :
    Calls Tryz.prog 110 #[.agg #[.int .i64 k, .string l, .slice A kids.len c, .int .i64 mn, .int .i64 mx], .int .i64 p] w fun e w' => e = .returned (strV (bodyN k l kids mn mx)) ∧ Below w.heap.size w w' := by
  have HB := Lib.hid (fun w => bnd_any k w)
  have td : decide (bnd k < p) = false := decide_eq_false (by omega)
  have HB1 := Lib.hid (fun o => (Below.refl _ w).alloc (Nat.le_refl _) o)
  generalize bnd k = B at *
  have hE := Lib.hid (show bodyN k l kids mn mx = [40, 41] by unfold bodyN bodyT; rw [if_neg (by omega), if_neg (by omega), if_neg (by omega), if_neg (by omega), if_neg (by omega), if_neg (by omega), if_neg (by omega), if_neg (by omega)])
  have t2 : (k == 2) = false := by rw [beq_eq_false_iff_ne]; omega
  have t3 : (k == 3) = false := by rw [beq_eq_false_iff_ne]; omega
  have t4 : (k == 4) = false := by rw [beq_eq_false_iff_ne]; omega
  have t5 : (k == 5) = false := by rw [beq_eq_false_iff_ne]; omega
  have t6 : (k == 6) = false := by rw [beq_eq_false_iff_ne]; omega
  have t7 : (k == 7) = false := by rw [beq_eq_false_iff_ne]; omega
  have t8 : (k == 8) = false := by rw [beq_eq_false_iff_ne]; omega
  have t9 : (k == 9) = false := by rw [beq_eq_false_iff_ne]; omega
  clear hk
  go_enter Tryz.func110, Tryz.ntmps110
  go_wp2_with (go_at_call 120; (with_reducible refine (HB.out _).mono ?_); rintro e w2 ⟨rfl, rfl⟩)
  go_ret
  exact ⟨by rw [hE.out]; rfl, HB1.out _⟩
theorem itoa_any (m : Int) (h : 0 ≤ m) (h2 : m ≤ 8) (w : World) : Calls Tryz.prog 123 #[.int .i64 m] w fun e w' => e = .returned (strV (itoa m)) ∧ w' = w := by
  have h1 := Tryz.strconv_Itoa_small m.toNat (by omega) w
  rw [show ((m.toNat : Nat) : Int) = m from by omega] at h1
  have e : itoa m = decDigits m.toNat := by
    rcases (show m = 0 ∨ m = 1 ∨ m = 2 ∨ m = 3 ∨ m = 4 ∨ m = 5 ∨ m = 6 ∨ m = 7 ∨ m = 8 from by omega) with rfl | rfl | rfl | rfl | rfl | rfl | rfl | rfl | rfl <;> rfl
  rw [e]; exact h1
set_option maxRecDepth 100000 in
set_option maxHeartbeats 4000000 in
theorem text_9a (l : ByteArray) (A : Option Addr) (c : Nat) (mn mx : Int) (kids : Fo) (p : Int) (w : World) (hb : p ≤ bnd 9) (hwt : (Fo.cons 9 l kids mn mx .nil).wt ≤ 1000000) (hvd : Vd (.cons 9 l kids mn mx .nil)) (HJ : Hid (JC w kids A c)) (hmx : mx = -1) :
    Calls Tryz.prog 110 #[.agg #[.int .i64 9, .string l, .slice A kids.len c, .int .i64 mn, .int .i64 mx], .int .i64 p] w fun e w' => e = .returned (strV (bodyN 9 l kids mn mx)) ∧ Below w.heap.size w w' := by
  have HB := Lib.hid (fun w => bnd_any 9 w)
  have td : decide (bnd 9 < p) = false := decide_eq_false (by omega)
  have HB1 := Lib.hid (fun o => (Below.refl _ w).alloc (Nat.le_refl _) o)
  generalize bnd 9 = B at *
  have hm := hvd.1 rfl
  have HI := Lib.hid (fun w => itoa_any mn hm.1 hm.2.1 w)
  have il := itoa_1 mn (by omega) hm.2.1
  have hE := Lib.hid (show bodyN 9 l kids mn mx = Lib.join (tx kids 2) [] ++ [123] ++ itoa mn ++ [44] ++ [] ++ [125] by
    show Lib.join (tx kids 2) [] ++ [123] ++ itoa mn ++ [44] ++ (if mx = -1 then [] else itoa mx) ++ [125] = _
    rw [if_pos hmx])
  have hjl := Nat.le_trans (join_le (tx kids 2) [] (by simp)) (lens1_tx kids 2 hvd.2.1)
  have hjw : (Lib.join (tx kids 2) []).length ≤ 1000000 := by simp only [Fo.wt] at hwt; omega
  have HJ1 := Lib.hid (fun (w1 : World) (hb : Below w.heap.size w w1) => HJ.out 2 [] w1 hb (by omega) (by simp))
  clear hwt hvd HJ hjl hm
  generalize Lib.join (tx kids 2) [] = t at *
  generalize itoa mn = t2 at *
  subst hmx
  have hs1 : ¬ 9223372036854775807 < t.length + 1 := by omega
  have hs2 : ¬ 9223372036854775807 < t.length + 1 + t2.length := by omega
  have hs3 : ¬ 9223372036854775807 < t.length + 1 + t2.length + 1 := by omega
  have hs4 : ¬ 9223372036854775807 < t.length + 1 + t2.length + 1 + 1 := by omega
  have HBX := Lib.hid (fun (w3 : World) (hb : Below (w.heap.size + 1) (w.alloc (.cells #[.int .i64 9, .string l, .slice A kids.len c, .int .i64 mn, .int .i64 (-1)] 24)) w3) => box_cells _ _ _ _ _ _ _ hb)
  have F0 := HBX.out _ (Below.refl _ _)
  go_enter Tryz.func110, Tryz.ntmps110
  go_wp2_with (first | (go_at_call 120; (with_reducible refine (HB.out _).mono ?_); rintro e w2 ⟨rfl, rfl⟩))
  go_region_held3 (fun w' => w'.cell? ⟨w.heap.size, 2, none⟩ = some (.slice A kids.len c) ∧ w'.cell? ⟨w.heap.size, 3, none⟩ = some (.int .i64 mn)) (first | exact ⟨F0.2.2.1, F0.2.2.2.1⟩ | exact ⟨F1.2.2.1, F1.2.2.2.1⟩) (first | (go_at_call 123; (with_reducible refine (HI.out _).mono ?_); rintro e w4 ⟨rfl, rfl⟩) | (go_at_call 122; (with_reducible refine (HJ1.out _ (HB1.out _).drew).mono ?_); rintro e w3 ⟨rfl, hb3⟩; have F1 := HBX.out w3 ((Below.refl _ _).drew.trans (hb3.mono (by simp)))))
  all_goals
    go_wp2_with fail
    go_ret
    exact ⟨by rw [hE.out]; exact congrArg (fun z => Ending.returned (Value.string z)) (by simp only [bytes2, List.append_nil]), (HB1.out _).drew.trans (hb3.mono (HB1.out _).drew.size)⟩
set_option maxRecDepth 100000 in
set_option maxHeartbeats 4000000 in
theorem text_9b (l : ByteArray) (A : Option Addr) (c : Nat) (mn mx : Int) (kids : Fo) (p : Int) (w : World) (hb : p ≤ bnd 9) (hwt : (Fo.cons 9 l kids mn mx .nil).wt ≤ 1000000) (hvd : Vd (.cons 9 l kids mn mx .nil)) (HJ : Hid (JC w kids A c)) (hmx : mx ≠ -1) :
    Calls Tryz.prog 110 #[.agg #[.int .i64 9, .string l, .slice A kids.len c, .int .i64 mn, .int .i64 mx], .int .i64 p] w fun e w' => e = .returned (strV (bodyN 9 l kids mn mx)) ∧ Below w.heap.size w w' := by
  have HB := Lib.hid (fun w => bnd_any 9 w)
  have td : decide (bnd 9 < p) = false := decide_eq_false (by omega)
  have HB1 := Lib.hid (fun o => (Below.refl _ w).alloc (Nat.le_refl _) o)
  generalize bnd 9 = B at *
  have hm := hvd.1 rfl
  have HI := Lib.hid (fun w => itoa_any mn hm.1 hm.2.1 w)
  have il := itoa_1 mn (by omega) hm.2.1
  have HX := Lib.hid (fun w => itoa_any mx (by omega) hm.2.2.2 w)
  have xl := itoa_1 mx hm.2.2.1 hm.2.2.2
  have tm : (mx == -1) = false := by rw [beq_eq_false_iff_ne]; exact hmx
  have tn : (mx != -1) = true := by rw [bne_iff_ne]; exact hmx
  have hE := Lib.hid (show bodyN 9 l kids mn mx = Lib.join (tx kids 2) [] ++ [123] ++ itoa mn ++ [44] ++ itoa mx ++ [125] by
    show Lib.join (tx kids 2) [] ++ [123] ++ itoa mn ++ [44] ++ (if mx = -1 then [] else itoa mx) ++ [125] = _
    rw [if_neg hmx])
  have hjl := Nat.le_trans (join_le (tx kids 2) [] (by simp)) (lens1_tx kids 2 hvd.2.1)
  have hjw : (Lib.join (tx kids 2) []).length ≤ 1000000 := by simp only [Fo.wt] at hwt; omega
  have HJ1 := Lib.hid (fun (w1 : World) (hb : Below w.heap.size w w1) => HJ.out 2 [] w1 hb (by omega) (by simp))
  clear hwt hvd HJ hjl hm
  generalize Lib.join (tx kids 2) [] = t at *
  generalize itoa mn = t2 at *
  clear hmx
  generalize itoa mx = t3 at *
  have hs1 : ¬ 9223372036854775807 < t.length + 1 := by omega
  have hs2 : ¬ 9223372036854775807 < t.length + 1 + t2.length := by omega
  have hs3 : ¬ 9223372036854775807 < t.length + 1 + t2.length + 1 := by omega
  have hs4 : ¬ 9223372036854775807 < t.length + 1 + t2.length + 1 + t3.length := by omega
  have hs5 : ¬ 9223372036854775807 < t.length + 1 + t2.length + 1 + t3.length + 1 := by omega
  have HBX := Lib.hid (fun (w3 : World) (hb : Below (w.heap.size + 1) (w.alloc (.cells #[.int .i64 9, .string l, .slice A kids.len c, .int .i64 mn, .int .i64 mx] 24)) w3) => box_cells _ _ _ _ _ _ _ hb)
  have F0 := HBX.out _ (Below.refl _ _)
  go_enter Tryz.func110, Tryz.ntmps110
  go_wp2_with (first | (go_at_call 120; (with_reducible refine (HB.out _).mono ?_); rintro e w2 ⟨rfl, rfl⟩) | (go_at_call 123; (with_reducible refine (HX.out _).mono ?_); rintro e w5 ⟨rfl, rfl⟩))
  go_region_held3 (fun w' => w'.cell? ⟨w.heap.size, 2, none⟩ = some (.slice A kids.len c) ∧ w'.cell? ⟨w.heap.size, 3, none⟩ = some (.int .i64 mn)) (first | exact ⟨F0.2.2.1, F0.2.2.2.1⟩ | exact ⟨F1.2.2.1, F1.2.2.2.1⟩) (first | (go_at_call 123; (with_reducible refine (HI.out _).mono ?_); rintro e w4 ⟨rfl, rfl⟩) | (go_at_call 122; (with_reducible refine (HJ1.out _ (HB1.out _).drew).mono ?_); rintro e w3 ⟨rfl, hb3⟩; have F1 := HBX.out w3 ((Below.refl _ _).drew.trans (hb3.mono (by simp)))))
  all_goals
    go_wp2_with fail
    go_ret
    exact ⟨by rw [hE.out]; exact congrArg (fun z => Ending.returned (Value.string z)) (by simp only [bytes2]), (HB1.out _).drew.trans (hb3.mono (HB1.out _).drew.size)⟩
end Go.Proofs.YtpaehicfndkliaaGreatDoor.Pa
