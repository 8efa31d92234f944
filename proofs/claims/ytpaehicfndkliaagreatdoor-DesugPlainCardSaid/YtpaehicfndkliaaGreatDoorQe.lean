/- The walks of 'Unname', of the reader's 'name'. Condition: a text of at most a million bytes; the reader lies in memory. -/
import Derived.Test.YtpaehicfndkliaaGreatDoorQd
namespace Go.Proofs.YtpaehicfndkliaaGreatDoor.Pa
open Go.RowKit Go.Lib Na Go.PN

theorem unname_any (S : ByteArray) (w : World) (hS : S.size ≤ 1000000) : Calls Tryz.prog 130 #[.string S] w fun e w' => e = .returned (unV (nameR S.data.toList) S.size) ∧ Below w.heap.size w w' := by
  by_cases hb : 0 < bareN S.data.toList
  · exact (unname_bare S w hS hb).mono fun e w' h => ⟨h.1, by rw [h.2]; exact Below.refl _ _⟩
  · by_cases hh : S.data.toList.head? = some 60
    · rcases hl : S.data.toList with _ | ⟨c, u⟩
      · rw [hl] at hh; cases hh
      · have : c = 60 := by rw [hl] at hh; exact Option.some.inj hh
        subst this
        rw [← hl]
        exact unname_esc S u w hS hl
    · exact (unname_none S w hS (by omega) hh).mono fun e w' h => ⟨h.1, by rw [h.2]; exact Below.refl _ _⟩
theorem ext_drop (S : ByteArray) (k : Nat) : S.extract k S.size = ⟨(S.data.toList.drop k).toArray⟩ := by
  apply ByteArray.ext
  rw [ByteArray.data_extract]
  exact Array.ext (by simp) (by intros; simp)
/-- What a reader of names does. -/
def NameRd (R : Nat) (s : ByteArray) (d : Int) (t : List UInt8) (w : World) (e : Ending) (w' : World) : Prop :=
  match nameR t with
  | some (l, u) => e = .returned (strV l) ∧ Kp [R] w w' ∧ RS w' R s (s.size - u.length : Nat) d
  | none => Left R w e w'
set_option maxRecDepth 100000 in
set_option maxHeartbeats 4000000 in
theorem name_rd (R : Nat) (s : ByteArray) (i : Nat) (d : Int) (t : List UInt8) (w : World) (h : RS w R s i d) (ht : s.data.toList.drop i = t) (hi : i ≤ s.size) (hm : s.size ≤ 1000000) :
    Calls Tryz.prog 125 #[.pointer (some ⟨R, 0, none⟩)] w (NameRd R s d t w) := by
  have hsz : s.data.toList.length = s.size := by simp
  have htl : t.length = s.size - i := by rw [← ht, List.length_drop, hsz]
  have hex : (s.extract i s.size).data.toList = t := by rw [ext_drop, ht]
  have hexz : (s.extract i s.size).size = s.size - i := by
    rw [← htl, ← hex]; simp
  have HU := Lib.hid (fun w => unname_any (s.extract i s.size) w (by omega))
  rw [hex, hexz] at HU
  have h0 := h.c0
  have h1 := h.c1
  have HR := Lib.hid h
  have hi1 : (0 : Int) ≤ (i : Int) := by omega
  have hi2 : (i : Int) ≤ (s.size : Int) := by omega
  have hlt := h.lt
  cases hn : nameR t with
  | none =>
    rw [hn] at HU
    have HB := Lib.hid (fun (w1 : World) (hb : Below w.heap.size w w1) => bad_any R s i d w1 (HR.out.below hb))
    have HP := Lib.hid (show NameRd R s d t w = Left R w by unfold NameRd; rw [hn])
    rw [HP.out]
    clear hn ht hsz htl hex hexz h HP
    unfold unV at HU
    simp only at HU
    go_enter Tryz.func125, Tryz.ntmps125
    go_wp2_with fail
    go_region_held3 (fun w' => w'.cell? ⟨R, 0, none⟩ = some (.string s) ∧ w'.cell? ⟨R, 1, none⟩ = some (.int .i64 i)) (first | exact ⟨h0, h1⟩ | exact ⟨F1.c0, F1.c1⟩) (first | (go_at_call 130; (with_reducible refine (HU.out _).mono ?_); rintro e w3 ⟨rfl, hb3⟩; have hb3 := (Below.refl w.heap.size w).drew.trans (hb3.mono (Below.refl w.heap.size w).drew.size); have F1 := HR.out.below hb3))
    all_goals
      go_wp2_with (go_at_call 106; (with_reducible refine (HB.out _ hb3).mono ?_); rintro e w' ⟨b, x, rfl, hl1, hl2, hl3, hl4⟩)
      exact ⟨rfl, b, x, rfl, hl1, hl2, Nat.le_trans hb3.size hl3, (Kp.of_below hb3).trans hl4⟩
  | some r =>
    obtain ⟨l, u⟩ := r
    rw [hn] at HU
    obtain ⟨p, hp, hp1⟩ := nameR_suf t _ hn
    have hpl := congrArg List.length hp
    rw [List.length_append] at hpl
    simp only at hpl
    have HP := Lib.hid (show ∀ e w', (e = .returned (strV l) ∧ Kp [R] w w' ∧ RS w' R s (s.size - u.length : Nat) d) → NameRd R s d t w e w' from fun e w' h => by unfold NameRd; rw [hn]; exact h)
    unfold unV at HU
    simp only at HU
    obtain ⟨n, hnn⟩ : ∃ n, s.size - i - u.length = n := ⟨_, rfl⟩
    have hn1 : 1 ≤ n := by omega
    have hn2 : i + n ≤ s.size := by omega
    have hn3 : s.size - u.length = i + n := by omega
    rw [hnn] at HU
    rw [hn3] at HP
    have tn : (((n : Nat) : Int) == 0) = false := by rw [beq_eq_false_iff_ne]; omega
    have tn2 : n ≠ 0 := by omega
    have hn4 : (0 : Int) ≤ (n : Int) := by omega
    have hn5 : (i : Int) + (n : Int) ≤ 1000000 := by omega
    refine Calls.mono (R := fun e w' => e = .returned (strV l) ∧ Kp [R] w w' ∧ RS w' R s (i + n : Nat) d) ?_ (fun e w' h => HP.out e w' h)
    clear hn ht hsz htl hex hexz h HP hp hpl hnn hn3 hp1 tn2
    go_enter Tryz.func125, Tryz.ntmps125
    go_wp2_with fail
    go_region_held3 (fun w' => w'.cell? ⟨R, 0, none⟩ = some (.string s) ∧ w'.cell? ⟨R, 1, none⟩ = some (.int .i64 i)) (first | exact ⟨h0, h1⟩ | exact ⟨F1.c0, F1.c1⟩) (first | (go_at_call 130; (with_reducible refine (HU.out _).mono ?_); rintro e w3 ⟨rfl, hb3⟩; have hb3 := (Below.refl w.heap.size w).drew.trans (hb3.mono (Below.refl w.heap.size w).drew.size); have F1 := HR.out.below hb3))
    all_goals
      have q1 := F1.c1
      have q2 := F1.f1
      go_wp2_with fail
      go_ret
      exact ⟨rfl, (Kp.of_below hb3).set (Or.inl (by simp)) _, F1.set1 ((i : Int) + (n : Int))⟩
end Go.Proofs.YtpaehicfndkliaaGreatDoor.Pa
