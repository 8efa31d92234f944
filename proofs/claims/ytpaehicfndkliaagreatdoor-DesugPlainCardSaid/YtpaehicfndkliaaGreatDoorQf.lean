/- The walk of the reader's 'num'. Condition: the reader lies in memory; what 'Atoi' says of a text that is none can be read. -/
import Derived.Test.YtpaehicfndkliaaGreatDoorQe
import Derived.Test.YtpaehicfndkliaaGreatDoorPm
import Derived.Shelf.Strconv.AtoiAll
import Derived.Lib.AtoiErrMem
namespace Go.Proofs.YtpaehicfndkliaaGreatDoor.Pa
open Go.RowKit Go.Lib Na Go.PN

def digN (t : List UInt8) : Nat := (t.takeWhile digB).length
/-- What a row of digits is worth; -1: nothing. -/
def numV (ds : List UInt8) : Int := match Lib.atoiAll ds with | .ok v => v | _ => -1
def numR (t : List UInt8) : Int × List UInt8 := (numV (t.take (digN t)), t.drop (digN t))
theorem numV_rng (ds : List UInt8) : -9223372036854775808 ≤ numV ds ∧ numV ds ≤ 9223372036854775807 := by
  unfold numV
  rcases h : Lib.atoiAll ds with v | _ | _
  · show -9223372036854775808 ≤ v ∧ v ≤ 9223372036854775807
    unfold Lib.atoiAll at h
    cases ds with
    | nil => cases h
    | cons c r =>
      simp only at h
      split at h
      · cases h
      · cases h
      · split at h
        · cases h
        · split at h
          · cases h
          · injection h with h
            subst h
            split <;> omega
  · decide
  · decide
theorem digN_le (t : List UInt8) : digN t ≤ t.length := by
  unfold digN
  induction t with
  | nil => simp
  | cons c t ih =>
    rw [List.takeWhile_cons]
    split <;> simp <;> omega
theorem digN_cons (c : UInt8) (t : List UInt8) : digN (c :: t) = if digB c then digN t + 1 else 0 := by
  unfold digN
  rw [List.takeWhile_cons]
  split <;> simp
/-- The library's two errors can be read. -/
structure Er (w : World) (R : Nat) : Prop where
  s : ∃ ev, w.cell? ⟨1, 0, none⟩ = some ev ∧ (ev = .nilIface ∨ ∃ te pe, ev = .iface te pe)
  r : ∃ ev, w.cell? ⟨2, 0, none⟩ = some ev ∧ (ev = .nilIface ∨ ∃ te pe, ev = .iface te pe)
  ns : 1 ≠ R
  nr : 2 ≠ R
theorem Er.keep {w w' : World} {R : Nat} (h : Er w R) (hk : Kp [R] w w') : Er w' R := by
  obtain ⟨⟨e1, h1, h2⟩, ⟨e2, h3, h4⟩, h5, h6⟩ := h
  exact ⟨⟨e1, (hk.cell (p := ⟨1, 0, none⟩) (cell_lt h1) (by simpa using h5)).trans h1, h2⟩, ⟨e2, (hk.cell (p := ⟨2, 0, none⟩) (cell_lt h3) (by simpa using h6)).trans h3, h4⟩, h5, h6⟩
theorem Er.below {w w' : World} {R : Nat} (h : Er w R) (hb : Below w.heap.size w w') : Er w' R := h.keep (.of_below hb)
theorem atoi_no (S : ByteArray) (hl : S.size ≤ 1000000) (R : Nat) (w : World) (hE : Er w R) (h : ∀ v, Lib.atoiAll S.data.toList ≠ .ok v) :
    Calls Tryz.prog 131 #[.string S] w fun e w' => ∃ (n : Int) (te : TypeId) (pe : Value), e = .returned (.tuple #[.int .i64 n, .iface te pe]) ∧ Below w.heap.size w w' := by
  obtain ⟨⟨e1, h1, h2⟩, ⟨e2, h3, h4⟩, _, _⟩ := hE
  rcases hx : Lib.atoiAll S.data.toList with v | _ | _
  · exact absurd hx (h v)
  · exact (Any.strconv_Atoi_syntax Tryz.laysC172 S (by omega) hx e1 w h1 h2).mono fun e w' ⟨N, h, _, _, hb⟩ => ⟨_, _, _, h, hb⟩
  · exact (Any.strconv_Atoi_range Tryz.laysC172 S (by omega) hx e2 w h3 h4).mono fun e w' ⟨N, h, _, _, hb⟩ => ⟨_, _, _, h, hb⟩
theorem atoi_ok (S : ByteArray) (hl : S.size ≤ 1000000) (w : World) (v : Int) (h : Lib.atoiAll S.data.toList = .ok v) :
    Calls Tryz.prog 131 #[.string S] w fun e w' => e = .returned (.tuple #[.int .i64 v, .nilIface]) ∧ Below w.heap.size w w' :=
  (Tryz.strconv_Atoi_ok S (by omega) v h w).mono fun e w' h => ⟨h.1, by
    rcases h.2 with rfl | ⟨t, rfl⟩
    · exact Below.refl _ _
    · exact Lib.bytesWorld_below _ _ _⟩
/-- Where a reader stands. -/
def rdAt (w : World) (R : Nat) : Nat := match w.cell? ⟨R, 1, none⟩ with | some v => (RowKit.intOf v).toNat | none => 0
theorem RS.rdAt {w : World} {R : Nat} {s : ByteArray} {i : Nat} {d : Int} (h : RS w R s i d) : rdAt w R = i := by
  unfold Pa.rdAt; rw [h.c1]; exact Int.toNat_natCast i
theorem Kp.drewN {X : List Nat} {w w' : World} (h : Kp X w w') (n : Nat) : Kp X w (w'.drewN n) := h.then (below_drewN _ _ _)
theorem RS.drewN {w : World} {R : Nat} {s : ByteArray} {i d : Int} (h : RS w R s i d) (n : Nat) : RS (w.drewN n) R s i d := h.below (below_drewN _ _ _)
set_option maxRecDepth 100000 in
set_option maxHeartbeats 4000000 in
theorem num_rd (R : Nat) (s : ByteArray) (i : Nat) (d : Int) (t : List UInt8) (w : World) (h : RS w R s i d) (ht : s.data.toList.drop i = t) (hi : i ≤ s.size) (hm : s.size ≤ 1000000) (hE : Er w R) :
    Calls Tryz.prog 126 #[.pointer (some ⟨R, 0, none⟩)] w fun e w' => e = .returned (.int .i64 (numR t).1) ∧ Kp [R] w w' ∧ RS w' R s (s.size - (numR t).2.length : Nat) d := by
  have hsz : s.data.toList.length = s.size := by simp
  have htl : t.length = s.size - i := by rw [← ht, List.length_drop, hsz]
  have hdl := digN_le t
  obtain ⟨n, hn⟩ : ∃ n, digN t = n := ⟨_, rfl⟩
  have hin : i + n ≤ s.size := by omega
  have hv1 : (numR t).1 = numV (t.take n) := by unfold numR; rw [hn]
  have hv2 : s.size - (numR t).2.length = i + n := by
    unfold numR; rw [hn]; simp only [List.length_drop]; omega
  rw [hv1, hv2]
  have h0 := h.c0
  have h1 := h.c1
  have HR := Lib.hid h
  have HE := Lib.hid hE
  have HT := Lib.hid ht
  have HN := Lib.hid hn
  have HA : Hid (∀ w1 : World, Kp [R] w w1 → Calls Tryz.prog 131 #[.string (s.extract i (i + n))] w1 fun e w' => ∃ (m : Int) (ev : Value), e = .returned (.tuple #[.int .i64 m, ev]) ∧ Hid ((ev = .nilIface ∧ m = numV (t.take n)) ∨ (∃ te pe, ev = .iface te pe ∧ numV (t.take n) = -1)) ∧ Below w1.heap.size w1 w') := fun w1 hk => by
    have hex : (s.extract i (i + n)).data.toList = t.take n := by
      rw [← HT.out, ByteArray.data_extract]
      apply List.ext_getElem
      · simp <;> omega
      · intro j h1 h2; simp
    have hexz : (s.extract i (i + n)).size ≤ 1000000 := by simp; omega
    by_cases hx : ∃ v, Lib.atoiAll (t.take n) = .ok v
    · obtain ⟨v, hv⟩ := hx
      exact (atoi_ok _ hexz w1 v (by rw [hex]; exact hv)).mono fun e w' h => ⟨v, .nilIface, h.1, Or.inl ⟨rfl, by unfold numV; rw [hv]⟩, h.2⟩
    · exact (atoi_no _ hexz R w1 (HE.out.keep hk) (fun v e => hx ⟨v, by rw [← hex]; exact e⟩)).mono fun e w' ⟨m, te, pe, h, hb⟩ => ⟨m, _, h, Or.inr ⟨te, pe, rfl, by
        unfold numV
        rcases hq : Lib.atoiAll (t.take n) with v | _ | _
        · exact absurd ⟨v, hq⟩ hx
        · rfl
        · rfl⟩, hb⟩
  generalize numV (t.take n) = V at *
  have hi0 : (0 : Int) ≤ (i : Int) := by omega
  clear h hE ht hn htl hdl hv1 hv2 hsz
  go_enter Tryz.func126, Tryz.ntmps126
  go_wp2_with fail
  go_loopw [10] (fun _ wr => ∃ (k : Nat), k ≤ n ∧ RS wr R s (i + k : Nat) d ∧ Kp [R] w wr ∧ Hid (digN (t.drop k) + k = n)) (fun _ wr => s.size - rdAt wr R)
  case atStart => exact ⟨0, Nat.zero_le _, HR.out, Kp.refl _ _, HN.out⟩
  case round =>
    obtain ⟨k, hk, hrs, hkp, hdg⟩ := hrel
    have q0 := hrs.c0
    have q1 := hrs.c1
    have q2 := hrs.f1
    have HRS := Lib.hid hrs
    clear h0 h1 hrs
    rw [Int.natCast_add] at q1
    have hs0 : (0 : Int) ≤ (i : Int) + (k : Int) := by omega
    have hs1 : (i : Int) + (k : Int) ≤ 1000000 := by omega
    have HD := Lib.hid (show s.data.toList.drop (i + k) = t.drop k by rw [← List.drop_drop, HT.out])
    have hq1 : ((i : Int) + (k : Int)).toNat = i + k := by omega
    have hq2 : (i : Int) ≤ (i : Int) + (k : Int) := by omega
    rcases hdk : t.drop k with _ | ⟨c, u⟩
    · have hend := drop_end (HD.out.trans hdk)
      have hkn : k = n := by have := hdg.out; rw [hdk] at this; simp [digN] at this; omega
      subst hkn
      have tg : decide ((i : Int) + (k : Int) < (s.size : Int)) = false := decide_eq_false (by omega)
      have hq3 : (i : Int) + (k : Int) ≤ (s.size : Int) := by omega
      clear hdk
      go_wp2_with fail
      go_quiet (fail)
      have HRQ := Lib.hid (HRS.out.drewN nq)
      have c0 := HRQ.out.c0
      have c1 := HRQ.out.c1
      rw [Int.natCast_add] at c1
      clear q0 q1 q2
      go_wp2_with fail
      go_region_held3 (fun w' => w'.cell? ⟨R, 0, none⟩ = some (.string s) ∧ w'.cell? ⟨R, 1, none⟩ = some (.int .i64 ((i : Int) + (k : Int)))) (first | exact ⟨c0, c1⟩ | exact ⟨F1.out.1, F1.out.2⟩) (first | (go_at_call 131; (with_reducible refine (HA.out _ (hkp.drewN _)).mono ?_); rintro e w3 ⟨m, ev, rfl, hor, hb3⟩; have hb3 := (below_drewN wr.heap.size wr (nq + 1)).trans (hb3.mono (below_drewN wr.heap.size wr (nq + 1)).size); have F1 := Lib.hid (show w3.cell? ⟨R, 0, none⟩ = some (.string s) ∧ w3.cell? ⟨R, 1, none⟩ = some (.int .i64 ((i : Int) + (k : Int))) from ⟨(HRS.out.below hb3).c0, by have := (HRS.out.below hb3).c1; rwa [Int.natCast_add] at this⟩)))
      all_goals
        rcases hor.out with ⟨rfl, rfl⟩ | ⟨te, pe, rfl, hV⟩
        · go_wp2_with fail
          go_ret
          exact ⟨rfl, hkp.then hb3, HRS.out.below hb3⟩
        · have hV := Lib.hid hV
          go_wp2_with fail
          go_ret
          exact ⟨by rw [hV.out]; rfl, hkp.then hb3, HRS.out.below hb3⟩
    · obtain ⟨hki, hc⟩ := drop_get (HD.out.trans hdk)
      have tg : decide ((i : Int) + (k : Int) < (s.size : Int)) = true := decide_eq_true (by omega)
      have hq3 : (i : Int) + (k : Int) ≤ (s.size : Int) := by omega
      have hq4 : (i : Int) + (k : Int) < (s.size : Int) := by omega
      have hdg2 := hdg.out
      rw [hdk, digN_cons] at hdg2
      have HDK := Lib.hid hdk
      have HC := Lib.hid hc
      clear hdk hdg hc
      by_cases hlo : c.toNat < 48
      · have hkn : k = n := by rw [if_neg (by simp [digB]; omega)] at hdg2; omega
        subst hkn
        have t1 : decide ((s[i + k]'hki).toNat ≥ 48) = false := decide_eq_false (by rw [HC.out]; omega)
        have t2 : decide (((s[i + k]'hki).toNat : Int) ≥ 48) = false := decide_eq_false (by rw [HC.out]; omega)
        have t3 : decide (48 ≤ (s[i + k]'hki).toNat) = false := decide_eq_false (by rw [HC.out]; omega)
        have t4 : decide ((48 : Int) ≤ ((s[i + k]'hki).toNat : Int)) = false := decide_eq_false (by rw [HC.out]; omega)
        clear hdg2
        go_wp2_with fail
        go_quiet (fail)
        have HRQ := Lib.hid (HRS.out.drewN nq)
        have c0 := HRQ.out.c0
        have c1 := HRQ.out.c1
        rw [Int.natCast_add] at c1
        clear q0 q1 q2
        go_wp2_with fail
        go_region_held3 (fun w' => w'.cell? ⟨R, 0, none⟩ = some (.string s) ∧ w'.cell? ⟨R, 1, none⟩ = some (.int .i64 ((i : Int) + (k : Int)))) (first | exact ⟨c0, c1⟩ | exact ⟨F1.out.1, F1.out.2⟩) (first | (go_at_call 131; (with_reducible refine (HA.out _ (hkp.drewN _)).mono ?_); rintro e w3 ⟨m, ev, rfl, hor, hb3⟩; have hb3 := (below_drewN wr.heap.size wr (nq + 1)).trans (hb3.mono (below_drewN wr.heap.size wr (nq + 1)).size); have F1 := Lib.hid (show w3.cell? ⟨R, 0, none⟩ = some (.string s) ∧ w3.cell? ⟨R, 1, none⟩ = some (.int .i64 ((i : Int) + (k : Int))) from ⟨(HRS.out.below hb3).c0, by have := (HRS.out.below hb3).c1; rwa [Int.natCast_add] at this⟩)))
        all_goals
          rcases hor.out with ⟨rfl, rfl⟩ | ⟨te, pe, rfl, hV⟩
          · go_wp2_with fail
            go_ret
            exact ⟨rfl, hkp.then hb3, HRS.out.below hb3⟩
          · have hV := Lib.hid hV
            go_wp2_with fail
            go_ret
            exact ⟨by rw [hV.out]; rfl, hkp.then hb3, HRS.out.below hb3⟩
      · have t1 : decide (((s[i + k]'hki).toNat : Int) ≥ 48) = true := decide_eq_true (by rw [HC.out]; omega)
        have t4 : decide ((48 : Int) ≤ ((s[i + k]'hki).toNat : Int)) = true := decide_eq_true (by rw [HC.out]; omega)
        by_cases hhi : 57 < c.toNat
        · have hkn : k = n := by rw [if_neg (by simp [digB]; omega)] at hdg2; omega
          subst hkn
          have t5 : decide (((s[i + k]'hki).toNat : Int) ≤ 57) = false := decide_eq_false (by rw [HC.out]; omega)
          clear hdg2
          go_wp2_with fail
          go_quiet (fail)
          have HRQ := Lib.hid (HRS.out.drewN nq)
          have c0 := HRQ.out.c0
          have c1 := HRQ.out.c1
          rw [Int.natCast_add] at c1
          clear q0 q1 q2
          go_wp2_with fail
          go_region_held3 (fun w' => w'.cell? ⟨R, 0, none⟩ = some (.string s) ∧ w'.cell? ⟨R, 1, none⟩ = some (.int .i64 ((i : Int) + (k : Int)))) (first | exact ⟨c0, c1⟩ | exact ⟨F1.out.1, F1.out.2⟩) (first | (go_at_call 131; (with_reducible refine (HA.out _ (hkp.drewN _)).mono ?_); rintro e w3 ⟨m, ev, rfl, hor, hb3⟩; have hb3 := (below_drewN wr.heap.size wr (nq + 1)).trans (hb3.mono (below_drewN wr.heap.size wr (nq + 1)).size); have F1 := Lib.hid (show w3.cell? ⟨R, 0, none⟩ = some (.string s) ∧ w3.cell? ⟨R, 1, none⟩ = some (.int .i64 ((i : Int) + (k : Int))) from ⟨(HRS.out.below hb3).c0, by have := (HRS.out.below hb3).c1; rwa [Int.natCast_add] at this⟩)))
          all_goals
            rcases hor.out with ⟨rfl, rfl⟩ | ⟨te, pe, rfl, hV⟩
            · go_wp2_with fail
              go_ret
              exact ⟨rfl, hkp.then hb3, HRS.out.below hb3⟩
            · have hV := Lib.hid hV
              go_wp2_with fail
              go_ret
              exact ⟨by rw [hV.out]; rfl, hkp.then hb3, HRS.out.below hb3⟩
        · have hdg3 : digN u + 1 + k = n := by rw [if_pos (by simp [digB]; omega)] at hdg2; omega
          have t5 : decide (((s[i + k]'hki).toNat : Int) ≤ 57) = true := decide_eq_true (by rw [HC.out]; omega)
          have hg := Lib.hid (show digN (t.drop (k + 1)) + (k + 1) = n by rw [drop_next HDK.out]; omega)
          have hlt : k < n := by omega
          clear hdg2 hdg3
          go_wp2_with fail
          go_quiet (fail)
          go_wp2_with fail
          have hr2 := (HRS.out.drewN nq).set1 ((i : Int) + (k : Int) + 1)
          exact ⟨⟨k + 1, hlt, by rw [show ((i + (k + 1) : Nat) : Int) = (i : Int) + (k : Int) + 1 from by omega]; exact hr2, (hkp.drewN nq).set (Or.inl (by simp)) _, hg⟩, by
            rw [HRS.out.rdAt, show rdAt ((wr.drewN nq).setCell ⟨R, 1, none⟩ (.int .i64 ((i : Int) + (k : Int) + 1))) R = i + k + 1 from by
              have : RS ((wr.drewN nq).setCell ⟨R, 1, none⟩ (.int .i64 ((i : Int) + (k : Int) + 1))) R s ((i + k + 1 : Nat) : Int) d := hr2
              exact this.rdAt]
            omega⟩
end Go.Proofs.YtpaehicfndkliaaGreatDoor.Pa
