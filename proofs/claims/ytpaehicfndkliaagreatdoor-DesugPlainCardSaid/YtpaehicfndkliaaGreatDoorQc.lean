/- The walk of 'Unname'. Condition: a text of at most a million bytes. -/
import Derived.Test.YtpaehicfndkliaaGreatDoorQb
import Derived.Test.YtpaehicfndkliaaGreatDoorPt
import Derived.Deep.RegionHeld3
import Derived.Test.YtpaehicfndkliaaGreatDoorPR
namespace Go.Proofs.YtpaehicfndkliaaGreatDoor.Pa
open Go.RowKit Go.Lib Na Go.PN

theorem bareN_step (l : List UInt8) (k : Nat) (h : k < bareN l) : ∃ h2 : k < l.length, plainB (l[k]'h2) = true := by
  unfold bareN at h
  induction l generalizing k with
  | nil => simp at h
  | cons c l ih =>
    rw [List.takeWhile_cons] at h
    split at h
    · rename_i hc
      cases k with
      | zero => exact ⟨by simp, hc⟩
      | succ k =>
        obtain ⟨h2, h3⟩ := ih k (by simpa using h)
        exact ⟨by simpa using h2, h3⟩
    · simp at h
theorem bareN_stop (l : List UInt8) (h : bareN l < l.length) : plainB (l[bareN l]'h) = false := by
  unfold bareN at h ⊢
  induction l with
  | nil => simp at h
  | cons c l ih =>
    by_cases hc : plainB c = true
    · have e : (c :: l).takeWhile plainB = c :: l.takeWhile plainB := by rw [List.takeWhile_cons, if_pos hc]
      simp only [e, List.length_cons, List.getElem_cons_succ] at h ⊢
      exact ih (by omega)
    · have e : (c :: l).takeWhile plainB = [] := by rw [List.takeWhile_cons, if_neg hc]
      simp only [e, List.length_nil, List.getElem_cons_zero]
      simpa using hc
theorem ext_take (S : ByteArray) (k : Nat) : S.extract 0 k = ⟨(S.data.toList.take k).toArray⟩ := by
  apply ByteArray.ext
  rw [ByteArray.data_extract]
  exact Array.ext (by simp) (by intros; simp)
/-- What 'Unname' says. -/
def unV (r : Option (List UInt8 × List UInt8)) (size : Nat) : Value :=
  match r with
  | some (l, r) => .tuple #[strV l, .int .i64 (size - r.length : Nat)]
  | none => .tuple #[strV [], .int .i64 0]
set_option maxRecDepth 100000 in
set_option maxHeartbeats 4000000 in
theorem unname_bare (S : ByteArray) (w : World) (hS : S.size ≤ 1000000) (hb : 0 < bareN S.data.toList) :
    Calls Tryz.prog 130 #[.string S] w fun e w' => e = .returned (unV (nameR S.data.toList) S.size) ∧ w' = w := by
  have hsz : S.data.toList.length = S.size := by simp
  have hE := Lib.hid (show unV (nameR S.data.toList) S.size = .tuple #[.string (S.extract 0 (bareN S.data.toList)), .int .i64 (bareN S.data.toList : Nat)] by
    unfold nameR
    rw [if_pos hb]
    show Value.tuple #[strV _, .int .i64 ((S.size - (S.data.toList.drop (bareN S.data.toList)).length : Nat) : Int)] = _
    have := bareN_le S.data.toList
    rw [List.length_drop, hsz, show S.size - (S.size - bareN S.data.toList) = bareN S.data.toList from by omega, ext_take])
  have HST := Lib.hid (fun k h => bareN_step S.data.toList k h)
  have HSP := Lib.hid (bareN_stop S.data.toList)
  have hle := bareN_le S.data.toList
  rw [hsz] at hle
  have HZ := Lib.hid hsz
  generalize bareN S.data.toList = n at *
  clear hsz
  go_enter Tryz.func130, Tryz.ntmps130
  go_wp2_with fail
  go_loop [3] (fun iv => ∃ k : Nat, iv = .int .i64 k ∧ k ≤ n) (fun iv => n - (RowKit.intOf iv).toNat)
  case atStart => exact ⟨0, rfl, Nat.zero_le _⟩
  case round =>
    obtain ⟨k, rfl, hk⟩ := hrel
    have hk0 : (0 : Int) ≤ (k : Int) := by omega
    by_cases hlt : k < n
    · obtain ⟨h2, h3⟩ := HST.out k hlt
      have hks : k < S.size := by omega
      have tg : decide (k < S.size) = true := decide_eq_true hks
      have hks2 : (k : Int) < (S.size : Int) := by omega
      have hp := Lib.hid (fun w => plain_any (S[k]'hks) w)
      have h4 : plainB (S[k]'hks) = true := h3
      rw [h4] at hp
      clear h2 h3 h4
      go_wp2_with (go_at_call 127; (with_reducible refine (hp.out _).mono ?_); rintro e w2 ⟨rfl, rfl⟩)
      go_round
      case rel => exact ⟨k + 1, by go_num, by omega⟩
      case measure => simp [RowKit.intOf]; omega
    · have hkn : k = n := by omega
      subst hkn
      have tb : decide ((k : Int) > 0) = true := decide_eq_true (by omega)
      have tb2 : decide (0 < k) = true := decide_eq_true (by omega)
      by_cases hks : k < S.size
      · have tg : decide (k < S.size) = true := decide_eq_true hks
        have hks2 : (k : Int) < (S.size : Int) := by omega
        have hp := Lib.hid (fun w => plain_any (S[k]'hks) w)
        have h4 : plainB (S[k]'hks) = false := HSP.out (by rw [HZ.out]; exact hks)
        rw [h4] at hp
        clear h4
        go_wp2_with (go_at_call 127; (with_reducible refine (hp.out _).mono ?_); rintro e w2 ⟨rfl, rfl⟩)
        go_ret2
        exact ⟨by rw [hE.out]; rfl, rfl⟩
      · have tg : decide (k < S.size) = false := decide_eq_false hks
        go_wp2_with fail
        go_ret2
        exact ⟨by rw [hE.out]; rfl, rfl⟩
theorem nameR_none (l : List UInt8) (hb : bareN l = 0) (h : l.head? ≠ some 60) : nameR l = none := by
  unfold nameR
  rw [if_neg (by omega)]
  cases l with
  | nil => rfl
  | cons c u => simp only; rw [if_neg (by intro e; subst e; exact h rfl)]
theorem nameR_esc (u : List UInt8) : nameR (60 :: u) = match escR u with
    | some r => if nameT r.1 ++ r.2 = 60 :: u then some r else none
    | none => none := by
  have hb : bareN (60 :: u) = 0 := by unfold bareN; rw [List.takeWhile_cons, if_neg (by decide)]; rfl
  unfold nameR
  rw [if_neg (by omega)]
  simp only [if_true]
  cases escR u <;> rfl
theorem bareN_zero (c : UInt8) (u : List UInt8) (h : bareN (c :: u) = 0) : plainB c = false := by
  unfold bareN at h
  rw [List.takeWhile_cons] at h
  split at h
  · simp at h
  · rename_i h2; simpa using h2
set_option maxRecDepth 100000 in
set_option maxHeartbeats 4000000 in
theorem unname_none (S : ByteArray) (w : World) (hS : S.size ≤ 1000000) (hb : bareN S.data.toList = 0) (hh : S.data.toList.head? ≠ some 60) :
    Calls Tryz.prog 130 #[.string S] w fun e w' => e = .returned (unV (nameR S.data.toList) S.size) ∧ w' = w := by
  have hsz : S.data.toList.length = S.size := by simp
  have hE := Lib.hid (show unV (nameR S.data.toList) S.size = .tuple #[.string ByteArray.empty, .int .i64 0] by
    rw [nameR_none _ hb hh]; rfl)
  generalize unV (nameR S.data.toList) S.size = V at *
  by_cases h0 : S.size = 0
  · have tg : decide (0 < S.size) = false := decide_eq_false (by omega)
    have te : S.toList = [] := by rw [ByteArray.toList_eq]; exact List.eq_nil_of_length_eq_zero (by omega)
    have te2 : S.toList.isEmpty = true := by rw [te]; rfl
    clear hb hh hsz
    go_enter Tryz.func130, Tryz.ntmps130
    go_wp2_with fail
    go_loop [3] (fun iv => iv = .int .i64 0) (fun _ => 0)
    case atStart => rfl
    case round =>
      subst hrel
      go_wp2_with fail
      go_ret2
      exact ⟨by rw [hE.out]; rfl, rfl⟩
  · have hlt : 0 < S.size := by omega
    have tg : decide (0 < S.size) = true := decide_eq_true hlt
    have tg2 : (0 : Int) < (S.size : Int) := by omega
    have hne : S.data.toList = S[0]'hlt :: S.data.toList.drop 1 := by
      have h1 : 0 < S.data.toList.length := by omega
      have := List.drop_eq_getElem_cons h1
      exact this
    have te : S.toList.isEmpty = false := by rw [ByteArray.toList_eq, hne]; rfl
    have hp := Lib.hid (fun w => plain_any (S[0]'hlt) w)
    rw [hne] at hb hh
    rw [bareN_zero _ _ hb] at hp
    have t60 : (((S[0]'hlt).toNat : Int) == 60) = false := by
      rw [beq_eq_false_iff_ne]
      intro e
      exact hh (congrArg some (UInt8.toNat_inj.1 (show (S[0]'hlt).toNat = (60 : UInt8).toNat by have : (60 : UInt8).toNat = 60 := rfl; omega)))
    have t60n : (((S[0]'hlt).toNat : Int) != 60) = true := by rw [bne, t60]; rfl
    clear hb hh hsz hne
    go_enter Tryz.func130, Tryz.ntmps130
    go_wp2_with fail
    go_loop [3] (fun iv => iv = .int .i64 0) (fun _ => 0)
    case atStart => rfl
    case round =>
      subst hrel
      go_wp2_with (go_at_call 127; (with_reducible refine (hp.out _).mono ?_); rintro e w2 ⟨rfl, rfl⟩)
      go_ret2
      exact ⟨by rw [hE.out]; rfl, rfl⟩
end Go.Proofs.YtpaehicfndkliaaGreatDoor.Pa
