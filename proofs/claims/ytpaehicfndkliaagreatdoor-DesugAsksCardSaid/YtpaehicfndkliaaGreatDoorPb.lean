
/- The walk of 'Name'. Condition: a name of at most a million bytes. -/
import Derived.Test.YtpaehicfndkliaaGreatDoorPa
namespace Go.Proofs.YtpaehicfndkliaaGreatDoor.Pa
open Go.RowKit Go.Lib Na Go.PN

theorem hex_at (i : Nat) (h : i < 16) (h2 : i < (⟨#[48, 49, 50, 51, 52, 53, 54, 55, 56, 57, 97, 98, 99, 100, 101, 102]⟩ : ByteArray).size) : (⟨#[48, 49, 50, 51, 52, 53, 54, 55, 56, 57, 97, 98, 99, 100, 101, 102]⟩ : ByteArray)[i]'h2 = hexD i := by
  have key : ∀ i : Fin 16, (⟨#[48, 49, 50, 51, 52, 53, 54, 55, 56, 57, 97, 98, 99, 100, 101, 102]⟩ : ByteArray)[i.val]'(by have := i.isLt; exact this) = hexD i.val := by decide
  exact key ⟨i, h⟩
set_option maxRecDepth 100000 in
theorem and15 (b : UInt8) : bits BinOp.and IntKind.u8 (b.toNat : Int) 15 = (b.toNat : Int) % 16 := by
  have key : ∀ b : Fin 256, bits BinOp.and IntKind.u8 (b.val : Int) 15 = (b.val : Int) % 16 := by decide
  exact key ⟨b.toNat, b.toNat_lt⟩
theorem take_step (l : List UInt8) (k : Nat) (h : k < l.length) : l.take (k + 1) = l.take k ++ [l[k]] := by
  rw [List.take_add_one, List.getElem?_eq_getElem h]; rfl
theorem conv_u8 {w : World} {A : Option Addr} {c n : Nat} {l : List UInt8} {B : Nat} (hr : Reads w B 1 A n (l.map bv)) :
    (convert 127 9 (.slice A n c)).run Tryz.prog w = .ok (.string ⟨l.toArray⟩) w := by
  have hl : l.length = n := by have := hr.1; simpa using this
  subst hl
  cases A with
  | none =>
    have h0 : l = [] := by
      rcases Nat.eq_zero_or_pos l.length with h | h
      · exact List.eq_nil_of_length_eq_zero h
      · obtain ⟨ad, e, _⟩ := hr.2 h; cases e
    subst h0
    exact run_convert_bytes_nil w 127 5 Tryz.underlying127 Tryz.underlying5 _ _ 9 Tryz.underlying9
  | some a =>
    exact run_convert_bytes_back (P := Tryz.prog) w 127 9 5 a c l Tryz.underlying127 Tryz.underlying5 Tryz.underlying9 (fun j hj => by
      obtain ⟨ad, e, _, hc⟩ := hr.2 (by omega)
      injection e with e
      subst e
      exact hc j _ (by rw [List.getElem?_map, List.getElem?_eq_getElem hj]; rfl))
theorem lit3 (w : World) (a b c : UInt8) (t : TypeId) : Reads (w.alloc (.cells #[bv a, bv b, bv c] t)) (w.heap.size + 1) 1 (some ⟨w.heap.size, 0, none⟩) 3 ([a, b, c].map bv) := by
  refine ⟨by simp, fun _ => ⟨_, rfl, by show w.heap.size < _; omega, fun j u hj => ?_⟩⟩
  match j, hj with
  | 0, hj => obtain rfl := Option.some.inj hj; go_simp
  | 1, hj => obtain rfl := Option.some.inj hj; go_simp
  | 2, hj => obtain rfl := Option.some.inj hj; go_simp
  | _ + 3, hj => cases hj
set_option maxRecDepth 100000 in
set_option maxHeartbeats 8000000 in
theorem name_any (S : ByteArray) (w : World) (hS : S.size ≤ 1000000) : Calls Tryz.prog 121 #[.string S] w fun e w' => e = .returned (.string ⟨(nameT S.data.toList).toArray⟩) ∧ Below w.heap.size w w' := by
  obtain ⟨i5, hi, hz0, hz1, hz2⟩ := i5
  have hsz : S.data.toList.length = S.size := by simp
  have HZ := Lib.hid hsz
  obtain ⟨B0, hB0⟩ : ∃ B0 : Bool, B0 = !S.toList.isEmpty := ⟨_, rfl⟩
  have HB0 := Lib.hid hB0
  have hown0 := World.ownsRow_nil w w.heap.size 5 1
  clear hsz
  go_enter Tryz.func121, Tryz.ntmps121
  go_wp2_with fail
  go_loopw [3, 4, 11, 5, 6] (fun xv ov iv _ _ wr => ∃ (k : Nat) (X : Bool) (A : Option Addr) (n c : Nat), xv = .bool X ∧ ov = .slice A n c ∧ iv = .int .i64 k ∧ k ≤ S.size ∧ Hid (X = (B0 && (S.data.toList.take k).all plainB)) ∧ wr.ownsRow w.heap.size 5 1 (.slice A n c) n (((S.data.toList.take k).flatMap esc).map bv) ∧ n ≤ 3 * k ∧ Below w.heap.size w wr) (fun _ _ iv _ _ _ => S.size - (RowKit.intOf iv).toNat)
  case atStart => exact ⟨0, B0, none, 0, 0, by rw [hB0], rfl, rfl, Nat.zero_le _, Lib.hid (by simp), hown0, Nat.zero_le _, Below.refl _ _⟩
  case round =>
    obtain ⟨k, X, A, n, c, rfl, rfl, rfl, hk, hX, hown, hn, hb⟩ := hrel
    have hws : w.heap.size ≤ wr.heap.size := hb.size
    by_cases hlt : k < S.size
    · have hlt1 : (k : Int) < S.size := by omega
      have hst := Lib.hid (take_step S.data.toList k (by rw [HZ.out]; exact hlt))
      have hget : S.data.toList[k]'(by rw [HZ.out]; exact hlt) = S[k]'hlt := rfl
      rw [hget] at hst
      generalize hbx : S[k]'hlt = b at *
      have hXn := Lib.hid (show (X && plainB b) = (B0 && (S.data.toList.take (k + 1)).all plainB) by rw [hst.out, List.all_append, hX.out, Bool.and_assoc]; simp)
      have HF := Lib.hid (show ((S.data.toList.take (k + 1)).flatMap esc) = (S.data.toList.take k).flatMap esc ++ esc b by rw [hst.out, List.flatMap_append]; simp)
      have hr1 : (0 : Int) ≤ (b.toNat : Int) / 16 := by omega
      have hr2 : (b.toNat : Int) / 16 < 16 := by have := b.toNat_lt; omega
      have hr3 : (0 : Int) ≤ (b.toNat : Int) % 16 := by omega
      have hr4 : (b.toNat : Int) % 16 < 16 := by omega
      have hand := and15 b
      have hx1 : ∀ h, ((⟨#[48, 49, 50, 51, 52, 53, 54, 55, 56, 57, 97, 98, 99, 100, 101, 102]⟩ : ByteArray)[((b.toNat : Int) / 16).toNat]'h).toNat = (hexD (b.toNat / 16)).toNat := fun h => by rw [hex_at _ (by omega)]; congr 2
      have hx2 : ∀ h, ((⟨#[48, 49, 50, 51, 52, 53, 54, 55, 56, 57, 97, 98, 99, 100, 101, 102]⟩ : ByteArray)[((b.toNat : Int) % 16).toNat]'h).toNat = (hexD (b.toNat % 16)).toNat := fun h => by rw [hex_at _ (by omega)]; congr 2
      have HP := Lib.hid (fun w => plain_any b w)
      have hownd : ∀ x y : UInt8, ((wr.alloc (Obj.cells #[.int .u8 92, bv x, bv y] 5)).drew).ownsRow w.heap.size 5 1 (.slice A n c) n (((S.data.toList.take k).flatMap esc).map bv) := fun x y => hown.alloc _
      have hownp : (wr.alloc (Obj.cells #[bv b] 5)).ownsRow w.heap.size 5 1 (.slice A n c) n (((S.data.toList.take k).flatMap esc).map bv) := hown.alloc _
      have HW1 := Lib.hid (fun o => Below.alloc (Below.refl wr.heap.size wr) (Nat.le_refl _) o)
      rcases (show b.toNat < 32 ∨ (32 ≤ b.toNat ∧ 126 < b.toNat) ∨ b.toNat = 60 ∨ b.toNat = 62 ∨ b.toNat = 92 ∨ (32 ≤ b.toNat ∧ b.toNat ≤ 126 ∧ b.toNat ≠ 60 ∧ b.toNat ≠ 62 ∧ b.toNat ≠ 92) from by omega) with h | ⟨h, h2⟩ | h | h | h | ⟨h, h2, h3, h4, h5⟩
      · have ta : decide ((b.toNat : Int) < 32) = true := decide_eq_true (by omega)
        have hodd : oddB b = true := by simp [oddB]; omega
        have HE := Lib.hid (show esc b = [92, hexD (b.toNat / 16), hexD (b.toNat % 16)] by unfold esc; rw [hodd]; rfl)
        clear hodd h
        cases X
        · rw [Bool.false_and] at hXn
          go_wp2_with fail
          go_region_held3 (fun _ => True) (trivial) ((refine step_append_reads _ bv (fun _ => rfl) 127 5 i5 _ 1 Tryz.underlying127 hi hz0 hz1 hz2 rfl rfl (.tmp 40) (.tmp 47) rfl w.heap.size _ n ((S.data.toList.take k).flatMap esc) rfl (hownd (hexD (b.toNat / 16)) (hexD (b.toNat % 16))) _ _ 3 _ [92, hexD (b.toNat / 16), hexD (b.toNat % 16)] rfl (lit3 _ _ _ _ _) (by unfold maxLen; omega) (by omega) (by simp; omega) ?_; intro A5 n5 c5 w5 hn5 hc5 hown5 hg5 hb5))
          all_goals have hn6 := hn5.out
          all_goals have hown6 := Lib.hid hown5
          all_goals have hb6 := Lib.hid hb5
          all_goals clear hown5 hg5 hb5
          all_goals (try go_wp2_with fail)
          all_goals rw [← HE.out, ← HF.out] at hown6
          all_goals exact ⟨⟨k + 1, false, A5, n5, c5, rfl, rfl, by go_num, hlt, hXn, hown6.out, by omega, hb.trans (((HW1.out _).drew.mono hws).trans hb6.out)⟩, by simp [RowKit.intOf]; omega⟩
        · generalize plainB b = P at *
          go_wp2_with (go_at_call 127; (with_reducible refine (HP.out _).mono ?_); rintro e w2 ⟨rfl, rfl⟩)
          go_region_held3 (fun _ => True) (trivial) ((refine step_append_reads _ bv (fun _ => rfl) 127 5 i5 _ 1 Tryz.underlying127 hi hz0 hz1 hz2 rfl rfl (.tmp 40) (.tmp 47) rfl w.heap.size _ n ((S.data.toList.take k).flatMap esc) rfl (hownd (hexD (b.toNat / 16)) (hexD (b.toNat % 16))) _ _ 3 _ [92, hexD (b.toNat / 16), hexD (b.toNat % 16)] rfl (lit3 _ _ _ _ _) (by unfold maxLen; omega) (by omega) (by simp; omega) ?_; intro A5 n5 c5 w5 hn5 hc5 hown5 hg5 hb5))
          all_goals have hn6 := hn5.out
          all_goals have hown6 := Lib.hid hown5
          all_goals have hb6 := Lib.hid hb5
          all_goals clear hown5 hg5 hb5
          all_goals (try go_wp2_with fail)
          all_goals rw [← HE.out, ← HF.out] at hown6
          all_goals exact ⟨⟨k + 1, P, A5, n5, c5, rfl, rfl, by go_num, hlt, by simpa using hXn, hown6.out, by omega, hb.trans (((HW1.out _).drew.mono hws).trans hb6.out)⟩, by simp [RowKit.intOf]; omega⟩
      · have ta : decide ((b.toNat : Int) < 32) = false := decide_eq_false (by omega)
        have tb : decide ((b.toNat : Int) > 126) = true := decide_eq_true (by omega)
        have hodd : oddB b = true := by simp [oddB]; omega
        have HE := Lib.hid (show esc b = [92, hexD (b.toNat / 16), hexD (b.toNat % 16)] by unfold esc; rw [hodd]; rfl)
        clear hodd h h2
        cases X
        · rw [Bool.false_and] at hXn
          go_wp2_with fail
          go_region_held3 (fun _ => True) (trivial) ((refine step_append_reads _ bv (fun _ => rfl) 127 5 i5 _ 1 Tryz.underlying127 hi hz0 hz1 hz2 rfl rfl (.tmp 40) (.tmp 47) rfl w.heap.size _ n ((S.data.toList.take k).flatMap esc) rfl (hownd (hexD (b.toNat / 16)) (hexD (b.toNat % 16))) _ _ 3 _ [92, hexD (b.toNat / 16), hexD (b.toNat % 16)] rfl (lit3 _ _ _ _ _) (by unfold maxLen; omega) (by omega) (by simp; omega) ?_; intro A5 n5 c5 w5 hn5 hc5 hown5 hg5 hb5))
          all_goals have hn6 := hn5.out
          all_goals have hown6 := Lib.hid hown5
          all_goals have hb6 := Lib.hid hb5
          all_goals clear hown5 hg5 hb5
          all_goals (try go_wp2_with fail)
          all_goals rw [← HE.out, ← HF.out] at hown6
          all_goals exact ⟨⟨k + 1, false, A5, n5, c5, rfl, rfl, by go_num, hlt, hXn, hown6.out, by omega, hb.trans (((HW1.out _).drew.mono hws).trans hb6.out)⟩, by simp [RowKit.intOf]; omega⟩
        · generalize plainB b = P at *
          go_wp2_with (go_at_call 127; (with_reducible refine (HP.out _).mono ?_); rintro e w2 ⟨rfl, rfl⟩)
          go_region_held3 (fun _ => True) (trivial) ((refine step_append_reads _ bv (fun _ => rfl) 127 5 i5 _ 1 Tryz.underlying127 hi hz0 hz1 hz2 rfl rfl (.tmp 40) (.tmp 47) rfl w.heap.size _ n ((S.data.toList.take k).flatMap esc) rfl (hownd (hexD (b.toNat / 16)) (hexD (b.toNat % 16))) _ _ 3 _ [92, hexD (b.toNat / 16), hexD (b.toNat % 16)] rfl (lit3 _ _ _ _ _) (by unfold maxLen; omega) (by omega) (by simp; omega) ?_; intro A5 n5 c5 w5 hn5 hc5 hown5 hg5 hb5))
          all_goals have hn6 := hn5.out
          all_goals have hown6 := Lib.hid hown5
          all_goals have hb6 := Lib.hid hb5
          all_goals clear hown5 hg5 hb5
          all_goals (try go_wp2_with fail)
          all_goals rw [← HE.out, ← HF.out] at hown6
          all_goals exact ⟨⟨k + 1, P, A5, n5, c5, rfl, rfl, by go_num, hlt, by simpa using hXn, hown6.out, by omega, hb.trans (((HW1.out _).drew.mono hws).trans hb6.out)⟩, by simp [RowKit.intOf]; omega⟩
      · have ta : decide ((b.toNat : Int) < 32) = false := decide_eq_false (by omega)
        have tb : decide ((b.toNat : Int) > 126) = false := decide_eq_false (by omega)
        have tc : ((b.toNat : Int) == 60) = true := by simp; omega
        have hodd : oddB b = true := by simp [oddB]; omega
        have HE := Lib.hid (show esc b = [92, hexD (b.toNat / 16), hexD (b.toNat % 16)] by unfold esc; rw [hodd]; rfl)
        clear hodd h
        cases X
        · rw [Bool.false_and] at hXn
          go_wp2_with fail
          go_region_held3 (fun _ => True) (trivial) ((refine step_append_reads _ bv (fun _ => rfl) 127 5 i5 _ 1 Tryz.underlying127 hi hz0 hz1 hz2 rfl rfl (.tmp 40) (.tmp 47) rfl w.heap.size _ n ((S.data.toList.take k).flatMap esc) rfl (hownd (hexD (b.toNat / 16)) (hexD (b.toNat % 16))) _ _ 3 _ [92, hexD (b.toNat / 16), hexD (b.toNat % 16)] rfl (lit3 _ _ _ _ _) (by unfold maxLen; omega) (by omega) (by simp; omega) ?_; intro A5 n5 c5 w5 hn5 hc5 hown5 hg5 hb5))
          all_goals have hn6 := hn5.out
          all_goals have hown6 := Lib.hid hown5
          all_goals have hb6 := Lib.hid hb5
          all_goals clear hown5 hg5 hb5
          all_goals (try go_wp2_with fail)
          all_goals rw [← HE.out, ← HF.out] at hown6
          all_goals exact ⟨⟨k + 1, false, A5, n5, c5, rfl, rfl, by go_num, hlt, hXn, hown6.out, by omega, hb.trans (((HW1.out _).drew.mono hws).trans hb6.out)⟩, by simp [RowKit.intOf]; omega⟩
        · generalize plainB b = P at *
          go_wp2_with (go_at_call 127; (with_reducible refine (HP.out _).mono ?_); rintro e w2 ⟨rfl, rfl⟩)
          go_region_held3 (fun _ => True) (trivial) ((refine step_append_reads _ bv (fun _ => rfl) 127 5 i5 _ 1 Tryz.underlying127 hi hz0 hz1 hz2 rfl rfl (.tmp 40) (.tmp 47) rfl w.heap.size _ n ((S.data.toList.take k).flatMap esc) rfl (hownd (hexD (b.toNat / 16)) (hexD (b.toNat % 16))) _ _ 3 _ [92, hexD (b.toNat / 16), hexD (b.toNat % 16)] rfl (lit3 _ _ _ _ _) (by unfold maxLen; omega) (by omega) (by simp; omega) ?_; intro A5 n5 c5 w5 hn5 hc5 hown5 hg5 hb5))
          all_goals have hn6 := hn5.out
          all_goals have hown6 := Lib.hid hown5
          all_goals have hb6 := Lib.hid hb5
          all_goals clear hown5 hg5 hb5
          all_goals (try go_wp2_with fail)
          all_goals rw [← HE.out, ← HF.out] at hown6
          all_goals exact ⟨⟨k + 1, P, A5, n5, c5, rfl, rfl, by go_num, hlt, by simpa using hXn, hown6.out, by omega, hb.trans (((HW1.out _).drew.mono hws).trans hb6.out)⟩, by simp [RowKit.intOf]; omega⟩
      · have ta : decide ((b.toNat : Int) < 32) = false := decide_eq_false (by omega)
        have tb : decide ((b.toNat : Int) > 126) = false := decide_eq_false (by omega)
        have tc : ((b.toNat : Int) == 60) = false := by simp; omega
        have td : ((b.toNat : Int) == 62) = true := by simp; omega
        have hodd : oddB b = true := by simp [oddB]; omega
        have HE := Lib.hid (show esc b = [92, hexD (b.toNat / 16), hexD (b.toNat % 16)] by unfold esc; rw [hodd]; rfl)
        clear hodd h
        cases X
        · rw [Bool.false_and] at hXn
          go_wp2_with fail
          go_region_held3 (fun _ => True) (trivial) ((refine step_append_reads _ bv (fun _ => rfl) 127 5 i5 _ 1 Tryz.underlying127 hi hz0 hz1 hz2 rfl rfl (.tmp 40) (.tmp 47) rfl w.heap.size _ n ((S.data.toList.take k).flatMap esc) rfl (hownd (hexD (b.toNat / 16)) (hexD (b.toNat % 16))) _ _ 3 _ [92, hexD (b.toNat / 16), hexD (b.toNat % 16)] rfl (lit3 _ _ _ _ _) (by unfold maxLen; omega) (by omega) (by simp; omega) ?_; intro A5 n5 c5 w5 hn5 hc5 hown5 hg5 hb5))
          all_goals have hn6 := hn5.out
          all_goals have hown6 := Lib.hid hown5
          all_goals have hb6 := Lib.hid hb5
          all_goals clear hown5 hg5 hb5
          all_goals (try go_wp2_with fail)
          all_goals rw [← HE.out, ← HF.out] at hown6
          all_goals exact ⟨⟨k + 1, false, A5, n5, c5, rfl, rfl, by go_num, hlt, hXn, hown6.out, by omega, hb.trans (((HW1.out _).drew.mono hws).trans hb6.out)⟩, by simp [RowKit.intOf]; omega⟩
        · generalize plainB b = P at *
          go_wp2_with (go_at_call 127; (with_reducible refine (HP.out _).mono ?_); rintro e w2 ⟨rfl, rfl⟩)
          go_region_held3 (fun _ => True) (trivial) ((refine step_append_reads _ bv (fun _ => rfl) 127 5 i5 _ 1 Tryz.underlying127 hi hz0 hz1 hz2 rfl rfl (.tmp 40) (.tmp 47) rfl w.heap.size _ n ((S.data.toList.take k).flatMap esc) rfl (hownd (hexD (b.toNat / 16)) (hexD (b.toNat % 16))) _ _ 3 _ [92, hexD (b.toNat / 16), hexD (b.toNat % 16)] rfl (lit3 _ _ _ _ _) (by unfold maxLen; omega) (by omega) (by simp; omega) ?_; intro A5 n5 c5 w5 hn5 hc5 hown5 hg5 hb5))
          all_goals have hn6 := hn5.out
          all_goals have hown6 := Lib.hid hown5
          all_goals have hb6 := Lib.hid hb5
          all_goals clear hown5 hg5 hb5
          all_goals (try go_wp2_with fail)
          all_goals rw [← HE.out, ← HF.out] at hown6
          all_goals exact ⟨⟨k + 1, P, A5, n5, c5, rfl, rfl, by go_num, hlt, by simpa using hXn, hown6.out, by omega, hb.trans (((HW1.out _).drew.mono hws).trans hb6.out)⟩, by simp [RowKit.intOf]; omega⟩
      · have ta : decide ((b.toNat : Int) < 32) = false := decide_eq_false (by omega)
        have tb : decide ((b.toNat : Int) > 126) = false := decide_eq_false (by omega)
        have tc : ((b.toNat : Int) == 60) = false := by simp; omega
        have td : ((b.toNat : Int) == 62) = false := by simp; omega
        have te : ((b.toNat : Int) == 92) = true := by simp; omega
        have hodd : oddB b = true := by simp [oddB]; omega
        have HE := Lib.hid (show esc b = [92, hexD (b.toNat / 16), hexD (b.toNat % 16)] by unfold esc; rw [hodd]; rfl)
        clear hodd h
        cases X
        · rw [Bool.false_and] at hXn
          go_wp2_with fail
          go_region_held3 (fun _ => True) (trivial) ((refine step_append_reads _ bv (fun _ => rfl) 127 5 i5 _ 1 Tryz.underlying127 hi hz0 hz1 hz2 rfl rfl (.tmp 40) (.tmp 47) rfl w.heap.size _ n ((S.data.toList.take k).flatMap esc) rfl (hownd (hexD (b.toNat / 16)) (hexD (b.toNat % 16))) _ _ 3 _ [92, hexD (b.toNat / 16), hexD (b.toNat % 16)] rfl (lit3 _ _ _ _ _) (by unfold maxLen; omega) (by omega) (by simp; omega) ?_; intro A5 n5 c5 w5 hn5 hc5 hown5 hg5 hb5))
          all_goals have hn6 := hn5.out
          all_goals have hown6 := Lib.hid hown5
          all_goals have hb6 := Lib.hid hb5
          all_goals clear hown5 hg5 hb5
          all_goals (try go_wp2_with fail)
          all_goals rw [← HE.out, ← HF.out] at hown6
          all_goals exact ⟨⟨k + 1, false, A5, n5, c5, rfl, rfl, by go_num, hlt, hXn, hown6.out, by omega, hb.trans (((HW1.out _).drew.mono hws).trans hb6.out)⟩, by simp [RowKit.intOf]; omega⟩
        · generalize plainB b = P at *
          go_wp2_with (go_at_call 127; (with_reducible refine (HP.out _).mono ?_); rintro e w2 ⟨rfl, rfl⟩)
          go_region_held3 (fun _ => True) (trivial) ((refine step_append_reads _ bv (fun _ => rfl) 127 5 i5 _ 1 Tryz.underlying127 hi hz0 hz1 hz2 rfl rfl (.tmp 40) (.tmp 47) rfl w.heap.size _ n ((S.data.toList.take k).flatMap esc) rfl (hownd (hexD (b.toNat / 16)) (hexD (b.toNat % 16))) _ _ 3 _ [92, hexD (b.toNat / 16), hexD (b.toNat % 16)] rfl (lit3 _ _ _ _ _) (by unfold maxLen; omega) (by omega) (by simp; omega) ?_; intro A5 n5 c5 w5 hn5 hc5 hown5 hg5 hb5))
          all_goals have hn6 := hn5.out
          all_goals have hown6 := Lib.hid hown5
          all_goals have hb6 := Lib.hid hb5
          all_goals clear hown5 hg5 hb5
          all_goals (try go_wp2_with fail)
          all_goals rw [← HE.out, ← HF.out] at hown6
          all_goals exact ⟨⟨k + 1, P, A5, n5, c5, rfl, rfl, by go_num, hlt, by simpa using hXn, hown6.out, by omega, hb.trans (((HW1.out _).drew.mono hws).trans hb6.out)⟩, by simp [RowKit.intOf]; omega⟩
      · have ta : decide ((b.toNat : Int) < 32) = false := decide_eq_false (by omega)
        have tb : decide ((b.toNat : Int) > 126) = false := decide_eq_false (by omega)
        have tc : ((b.toNat : Int) == 60) = false := by simp; omega
        have td : ((b.toNat : Int) == 62) = false := by simp; omega
        have te : ((b.toNat : Int) == 92) = false := by simp; omega
        have hodd : oddB b = false := by simp [oddB]; omega
        have HE := Lib.hid (show esc b = [b] by unfold esc; rw [hodd]; rfl)
        clear hodd h h2 h3 h4 h5
        cases X
        · rw [Bool.false_and] at hXn
          go_wp2_with (first | (refine wpList_append_reads _ bv (fun _ => rfl) 127 5 i5 _ 1 Tryz.underlying127 hi hz0 hz1 hz2 rfl rfl (.tmp 49) (.tmp 51) rfl w.heap.size _ n ((S.data.toList.take k).flatMap esc) rfl hownp _ _ 1 _ [b] rfl (Reads.lit1 bv _ b _) (by unfold maxLen; omega) (by omega) (by simp; omega) ?_; intro A5 n5 c5 w5 hn5 hc5 hown5 hb5; have hn6 := Lib.hid hn5.out; have hown6 := Lib.hid hown5; have hb6 := Lib.hid hb5; clear hown5 hb5))
          rw [← HE.out, ← HF.out] at hown6
          exact ⟨⟨k + 1, false, A5, n5, c5, rfl, rfl, by go_num, hlt, hXn, hown6.out, by have := hn6.out; omega, hb.trans (((HW1.out _).mono hws).trans hb6.out)⟩, by simp [RowKit.intOf]; omega⟩
        · generalize plainB b = P at *
          go_wp2_with (first | (go_at_call 127; (with_reducible refine (HP.out _).mono ?_); rintro e w2 ⟨rfl, rfl⟩) | (refine wpList_append_reads _ bv (fun _ => rfl) 127 5 i5 _ 1 Tryz.underlying127 hi hz0 hz1 hz2 rfl rfl (.tmp 49) (.tmp 51) rfl w.heap.size _ n ((S.data.toList.take k).flatMap esc) rfl hownp _ _ 1 _ [b] rfl (Reads.lit1 bv _ b _) (by unfold maxLen; omega) (by omega) (by simp; omega) ?_; intro A5 n5 c5 w5 hn5 hc5 hown5 hb5; have hn6 := Lib.hid hn5.out; have hown6 := Lib.hid hown5; have hb6 := Lib.hid hb5; clear hown5 hb5))
          rw [← HE.out, ← HF.out] at hown6
          exact ⟨⟨k + 1, P, A5, n5, c5, rfl, rfl, by go_num, hlt, by simpa using hXn, hown6.out, by have := hn6.out; omega, hb.trans (((HW1.out _).mono hws).trans hb6.out)⟩, by simp [RowKit.intOf]; omega⟩
    · have hlt1 : ¬ (k : Int) < S.size := by omega
      have hkS : k = S.size := by omega
      have hX2 := hX.out
      rw [hkS, List.take_of_length_le (by rw [HZ.out]; exact Nat.le_refl _)] at hX2
      rw [hkS, List.take_of_length_le (by rw [HZ.out]; exact Nat.le_refl _)] at hown
      have hcv := Lib.hid (conv_u8 (c := c) (Reads.of_own hown))
      have HT := Lib.hid (show nameT S.data.toList = if X then S.data.toList else 60 :: (S.data.toList.flatMap esc ++ [62]) by unfold nameT bareB; rw [hX2, HB0.out, ByteArray.toList_eq])
      have hFl := (flat_len S.data.toList).2
      rw [HZ.out] at hFl
      generalize S.data.toList.flatMap esc = F at *
      have hs1 : ¬ 9223372036854775807 < 1 + F.length := by omega
      have hs2 : ¬ 9223372036854775807 < 1 + F.length + 1 := by omega
      clear hX2 hX hFl hown hB0 HB0 hown0
      cases X
      · have hcv1 := hcv.out
        have hR := Lib.hid (show (⟨(nameT S.data.toList).toArray⟩ : ByteArray) = ⟨#[60]⟩ ++ ⟨F.toArray⟩ ++ ⟨#[62]⟩ by rw [HT.out]; apply ByteArray.ext; simp)
        go_wp2_with fail
        go_ret
        exact ⟨by rw [hR.out]; rfl, hb⟩
      · have hR := Lib.hid (show (⟨(nameT S.data.toList).toArray⟩ : ByteArray) = S by rw [HT.out]; apply ByteArray.ext; simp)
        go_wp2_with fail
        go_ret
        exact ⟨by rw [hR.out]; rfl, hb⟩
end Go.Proofs.YtpaehicfndkliaaGreatDoor.Pa
