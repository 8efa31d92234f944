import Derived.Test.YtpaehicfndkliaaGreatDoorQe
import Derived.Test.YtpaehicfndkliaaGreatDoorPm
import Derived.Shelf.Strconv.AtoiAll
import Derived.Lib.AtoiErrMem

/- The walk of the reader's 'num'. Condition: the reader lies in memory; what 'Atoi' says of a text that is none can be read. -/
namespace Go.Proofs.YtpaehicfndkliaaGreatDoor.Pa
open Go.RowKit Go.Lib Na Go.PN

def digN (t : List UInt8) : Nat := (t.takeWhile digB).length
/-- What a row of digits is worth; -1: nothing. -/
def numV (ds : List UInt8) : Int := match Lib.atoiAll ds with | .ok v => v | _ => -1
def numR (t : List UInt8) : Int × List UInt8 := (numV (t.take (digN t)), t.drop (digN t))
theorem numV_rng (ds : List UInt8) : -9223372036854775808 ≤ numV ds ∧ numV ds ≤ 9223372036854775807 := by
  unfold numV
  rcases h : Lib.atoiAll ds with v | _ | _
  · show -9223372036854775808 ≤ v ∧ v ≤ 9223372036854775807
    unfold Lib.atoiAll at h
    cases ds with
    | nil => cases h
    | cons c r =>
      simp only at h
      split at h
      · cases h
      · cases h
      · split at h
        · cases h
        · split at h
          · cases h
          · injection h with h
            subst h
            split <;> omega
  · decide
  · decide
theorem digN_le (t : List UInt8) : digN t ≤ t.length := by
  unfold digN
  induction t with
  | nil => simp
  | cons c t ih =>
    rw [List.takeWhile_cons]
    split <;> simp <;> omega
theorem digN_cons (c : UInt8) (t : List UInt8) : digN (c :: t) = if digB c then digN t + 1 else 0 := by
  unfold digN
  rw [List.takeWhile_cons]
  split <;> simp
/-- The library's two errors can be read. -/
structure Er (w : World) (R : Nat) : Prop where
  s : ∃ ev, w.cell? ⟨1, 0, none⟩ = some ev ∧ (ev = .nilIface ∨ ∃ te pe, ev = .iface te pe)
  r : ∃ ev, w.cell? ⟨2, 0, none⟩ = some ev ∧ (ev = .nilIface ∨ ∃ te pe, ev = .iface te pe)
  ns : 1 ≠ R
  nr : 2 ≠ R
theorem Er.keep {w w' : World} {R : Nat} (h : Er w R) (hk : Kp [R] w w') : Er w' R := by
  obtain ⟨⟨e1, h1, h2⟩, ⟨e2, h3, h4⟩, h5, h6⟩ := h
  exact ⟨⟨e1, (hk.cell (p := ⟨1, 0, none⟩) (cell_lt h1) (by simpa using h5)).trans h1, h2⟩, ⟨e2, (hk.cell (p := ⟨2, 0, none⟩) (cell_lt h3) (by simpa using h6)).trans h3, h4⟩, h5, h6⟩
theorem Er.below {w w' : World} {R : Nat} (h : Er w R) (hb : Below w.heap.size w w') : Er w' R := h.keep (.of_below hb)
theorem atoi_no (S : ByteArray) (hl : S.size ≤ 1000000) (R : Nat) (w : World) (hE : Er w R) (h : ∀ v, Lib.atoiAll S.data.toList ≠ .ok v) :
    Calls Tryz.prog 131 #[.string S] w fun e w' => ∃ (n : Int) (te : TypeId) (pe : Value), e = .returned (.tuple #[.int .i64 n, .iface te pe]) ∧ Below w.heap.size w w' := by
  obtain ⟨⟨e1, h1, h2⟩, ⟨e2, h3, h4⟩, _, _⟩ := hE
  rcases hx : Lib.atoiAll S.data.toList with v | _ | _
  · exact absurd hx (h v)
  · exact (Any.strconv_Atoi_syntax Tryz.laysC172 S (by omega) hx e1 w h1 h2).mono fun e w' ⟨N, h, _, _, hb⟩ => ⟨_, _, _, h, hb⟩
  · exact (Any.strconv_Atoi_range Tryz.laysC172 S (by omega) hx e2 w h3 h4).mono fun e w' ⟨N, h, _, _, hb⟩ => ⟨_, _, _, h, hb⟩
theorem atoi_ok (S : ByteArray) (hl : S.size ≤ 1000000) (w : World) (v : Int) (h : Lib.atoiAll S.data.toList = .ok v) :
    Calls Tryz.prog 131 #[.string S] w fun e w' => e = .returned (.tuple #[.int .i64 v, .nilIface]) ∧ Below w.heap.size w w' :=
  (Tryz.strconv_Atoi_ok S (by omega) v h w).mono fun e w' h => ⟨h.1, by
    rcases h.2 with rfl | ⟨t, rfl⟩
    · exact Below.refl _ _
    · exact Lib.bytesWorld_below _ _ _⟩
/-- Where a reader stands. -/
def rdAt (w : World) (R : Nat) : Nat := match w.cell? ⟨R, 1, none⟩ with | some v => (RowKit.intOf v).toNat | none => 0
theorem RS.rdAt {w : World} {R : Nat} {s : ByteArray} {i : Nat} {d : Int} (h : RS w R s i d) : rdAt w R = i := by
  unfold Pa.rdAt; rw [h.c1]; exact Int.toNat_natCast i
theorem Kp.drewN {X : List Nat} {w w' : World} (h : Kp X w w') (n : Nat) : Kp X w (w'.drewN n) := h.then (below_drewN _ _ _)
theorem RS.drewN {w : World} {R : Nat} {s : ByteArray} {i d : Int} (h : RS w R s i d) (n : Nat) : RS (w.drewN n) R s i d := h.below (below_drewN _ _ _)
set_option maxRecDepth 100000 in
set_option maxHeartbeats 4000000 in
theorem num_rd (R : Nat) (s : ByteArray) (i : Nat) (d : Int) (t : List UInt8) (w : World) (h : RS w R s i d) (ht : s.data.toList.drop i = t) (hi : i ≤ s.size) (hm : s.size ≤ 1000000) (hE : Er w R) :
    Calls Tryz.prog 126 #[.pointer (some ⟨R, 0, none⟩)] w fun e w' => e = .returned (.int .i64 (numR t).1) ∧ Kp [R] w w' ∧ RS w' R s (s.size - (numR t).2.length : Nat) d := by
  have hsz : s.data.toList.length = s.size := by simp
  have htl : t.length = s.size - i := by rw [← ht, List.length_drop, hsz]
  have hdl := digN_le t
  obtain ⟨n, hn⟩ : ∃ n, digN t = n := ⟨_, rfl⟩
  have hin : i + n ≤ s.size := by omega
  have hv1 : (numR t).1 = numV (t.take n) := by unfold numR; rw [hn]
  have hv2 : s.size - (numR t).2.length = i + n := by
    unfold numR; rw [hn]; simp only [List.length_drop]; omega
  rw [hv1, hv2]
  have h0 := h.c0
  have h1 := h.c1
  have HR := Lib.hid h
  have HE := Lib.hid hE
  have HT := Lib.hid ht
  have HN := Lib.hid hn
  have HA : Hid (∀ w1 : World, Kp [R] w w1 → Calls Tryz.prog 131 #[.string (s.extract i (i + n))] w1 fun e w' => ∃ (m : Int) (ev : Value), e = .returned (.tuple #[.int .i64 m, ev]) ∧ Hid ((ev = .nilIface ∧ m = numV (t.take n)) ∨ (∃ te pe, ev = .iface te pe ∧ numV (t.take n) = -1)) ∧ Below w1.heap.size w1 w') := fun w1 hk => by
    have hex : (s.extract i (i + n)).data.toList = t.take n := by
      rw [← HT.out, ByteArray.data_extract]
      apply List.ext_getElem
      · simp <;> omega
      · intro j h1 h2; simp
    have hexz : (s.extract i (i + n)).size ≤ 1000000 := by simp; omega
    by_cases hx : ∃ v, Lib.atoiAll (t.take n) = .ok v
    · obtain ⟨v, hv⟩ := hx
      exact (atoi_ok _ hexz w1 v (by rw [hex]; exact hv)).mono fun e w' h => ⟨v, .nilIface, h.1, Or.inl ⟨rfl, by unfold numV; rw [hv]⟩, h.2⟩
    · exact (atoi_no _ hexz R w1 (HE.out.keep hk) (fun v e => hx ⟨v, by rw [← hex]; exact e⟩)).mono fun e w' ⟨m, te, pe, h, hb⟩ => ⟨m, _, h, Or.inr ⟨te, pe, rfl, by
        unfold numV
        rcases hq : Lib.atoiAll (t.take n) with v | _ | _
        · exact absurd ⟨v, hq⟩ hx
        · rfl
        · rfl⟩, hb⟩
  generalize numV (t.take n) = V at *
  have hi0 : (0 : Int) ≤ (i : Int) := by omega
  clear h hE ht hn htl hdl hv1 hv2 hsz
  go_enter Tryz.func126, Tryz.ntmps126
  go_wp2_with fail
  go_loopw [10] (fun _ wr => ∃ (k : Nat), k ≤ n ∧ RS wr R s (i + k : Nat) d ∧ Kp [R] w wr ∧ Hid (digN (t.drop k) + k = n)) (fun _ wr => s.size - rdAt wr R)
  case atStart => exact ⟨0, Nat.zero_le _, HR.out, Kp.refl _ _, HN.out⟩
  case round =>
    obtain ⟨k, hk, hrs, hkp, hdg⟩ := hrel
    have q0 := hrs.c0
    have q1 := hrs.c1
    have q2 := hrs.f1
    have HRS := Lib.hid hrs
    clear h0 h1 hrs
    rw [Int.natCast_add] at q1
    have hs0 : (0 : Int) ≤ (i : Int) + (k : Int) := by omega
    have hs1 : (i : Int) + (k : Int) ≤ 1000000 := by omega
    have HD := Lib.hid (show s.data.toList.drop (i + k) = t.drop k by rw [← List.drop_drop, HT.out])
    have hq1 : ((i : Int) + (k : Int)).toNat = i + k := by omega
    have hq2 : (i : Int) ≤ (i : Int) + (k : Int) := by omega
    rcases hdk : t.drop k with _ | ⟨c, u⟩
    · have hend := drop_end (HD.out.trans hdk)
      have hkn : k = n := by have := hdg.out; rw [hdk] at this; simp [digN] at this; omega
      subst hkn
      have tg : decide ((i : Int) + (k : Int) < (s.size : Int)) = false := decide_eq_false (by omega)
      have hq3 : (i : Int) + (k : Int) ≤ (s.size : Int) := by omega
      clear hdk
      go_wp2_with fail
      go_quiet (fail)
      have HRQ := Lib.hid (HRS.out.drewN nq)
      have c0 := HRQ.out.c0
      have c1 := HRQ.out.c1
      rw [Int.natCast_add] at c1
      clear q0 q1 q2
      go_wp2_with fail
      go_region_held3 (fun w' => w'.cell? ⟨R, 0, none⟩ = some (.string s) ∧ w'.cell? ⟨R, 1, none⟩ = some (.int .i64 ((i : Int) + (k : Int)))) (first | exact ⟨c0, c1⟩ | exact ⟨F1.out.1, F1.out.2⟩) (first | (go_at_call 131; (with_reducible refine (HA.out _ (hkp.drewN _)).mono ?_); rintro e w3 ⟨m, ev, rfl, hor, hb3⟩; have hb3 := (below_drewN wr.heap.size wr (nq + 1)).trans (hb3.mono (below_drewN wr.heap.size wr (nq + 1)).size); have F1 := Lib.hid (show w3.cell? ⟨R, 0, none⟩ = some (.string s) ∧ w3.cell? ⟨R, 1, none⟩ = some (.int .i64 ((i : Int) + (k : Int))) from ⟨(HRS.out.below hb3).c0, by have := (HRS.out.below hb3).c1; rwa [Int.natCast_add] at this⟩)))
      all_goals
        rcases hor.out with ⟨rfl, rfl⟩ | ⟨te, pe, rfl, hV⟩
        · go_wp2_with fail
          go_ret
          exact ⟨rfl, hkp.then hb3, HRS.out.below hb3⟩
        · have hV := Lib.hid hV
          go_wp2_with fail
          go_ret
          exact ⟨by rw [hV.out]; rfl, hkp.then hb3, HRS.out.below hb3⟩
    · obtain ⟨hki, hc⟩ := drop_get (HD.out.trans hdk)
      have tg : decide ((i : Int) + (k : Int) < (s.size : Int)) = true := decide_eq_true (by omega)
      have hq3 : (i : Int) + (k : Int) ≤ (s.size : Int) := by omega
      have hq4 : (i : Int) + (k : Int) < (s.size : Int) := by omega
      have hdg2 := hdg.out
      rw [hdk, digN_cons] at hdg2
      have HDK := Lib.hid hdk
      have HC := Lib.hid hc
      clear hdk hdg hc
      by_cases hlo : c.toNat < 48
      · have hkn : k = n := by rw [if_neg (by simp [digB]; omega)] at hdg2; omega
        subst hkn
        have t1 : decide ((s[i + k]'hki).toNat ≥ 48) = false := decide_eq_false (by rw [HC.out]; omega)
        have t2 : decide (((s[i + k]'hki).toNat : Int) ≥ 48) = false := decide_eq_false (by rw [HC.out]; omega)
        have t3 : decide (48 ≤ (s[i + k]'hki).toNat) = false := decide_eq_false (by rw [HC.out]; omega)
        have t4 : decide ((48 : Int) ≤ ((s[i + k]'hki).toNat : Int)) = false := decide_eq_false (by rw [HC.out]; omega)
        clear hdg2
        go_wp2_with fail
        go_quiet (fail)
        have HRQ := Lib.hid (HRS.out.drewN nq)
        have c0 := HRQ.out.c0
        have c1 := HRQ.out.c1
        rw [Int.natCast_add] at c1
        clear q0 q1 q2
        go_wp2_with fail
        go_region_held3 (fun w' => w'.cell? ⟨R, 0, none⟩ = some (.string s) ∧ w'.cell? ⟨R, 1, none⟩ = some (.int .i64 ((i : Int) + (k : Int)))) (first | exact ⟨c0, c1⟩ | exact ⟨F1.out.1, F1.out.2⟩) (first | (go_at_call 131; (with_reducible refine (HA.out _ (hkp.drewN _)).mono ?_); rintro e w3 ⟨m, ev, rfl, hor, hb3⟩; have hb3 := (below_drewN wr.heap.size wr (nq + 1)).trans (hb3.mono (below_drewN wr.heap.size wr (nq + 1)).size); have F1 := Lib.hid (show w3.cell? ⟨R, 0, none⟩ = some (.string s) ∧ w3.cell? ⟨R, 1, none⟩ = some (.int .i64 ((i : Int) + (k : Int))) from ⟨(HRS.out.below hb3).c0, by have := (HRS.out.below hb3).c1; rwa [Int.natCast_add] at this⟩)))
        all_goals
          rcases hor.out with ⟨rfl, rfl⟩ | ⟨te, pe, rfl, hV⟩
          · go_wp2_with fail
            go_ret
            exact ⟨rfl, hkp.then hb3, HRS.out.below hb3⟩
          · have hV := Lib.hid hV
            go_wp2_with fail
            go_ret
            exact ⟨by rw [hV.out]; rfl, hkp.then hb3, HRS.out.below hb3⟩
      · have t1 : decide (((s[i + k]'hki).toNat : Int) ≥ 48) = true := decide_eq_true (by rw [HC.out]; omega)
        have t4 : decide ((48 : Int) ≤ ((s[i + k]'hki).toNat : Int)) = true := decide_eq_true (by rw [HC.out]; omega)
        by_cases hhi : 57 < c.toNat
        · have hkn : k = n := by rw [if_neg (by simp [digB]; omega)] at hdg2; omega
          subst hkn
          have t5 : decide (((s[i + k]'hki).toNat : Int) ≤ 57) = false := decide_eq_false (by rw [HC.out]; omega)
          clear hdg2
          go_wp2_with fail
          go_quiet (fail)
          have HRQ := Lib.hid (HRS.out.drewN nq)
          have c0 := HRQ.out.c0
          have c1 := HRQ.out.c1
          rw [Int.natCast_add] at c1
          clear q0 q1 q2
          go_wp2_with fail
          go_region_held3 (fun w' => w'.cell? ⟨R, 0, none⟩ = some (.string s) ∧ w'.cell? ⟨R, 1, none⟩ = some (.int .i64 ((i : Int) + (k : Int)))) (first | exact ⟨c0, c1⟩ | exact ⟨F1.out.1, F1.out.2⟩) (first | (go_at_call 131; (with_reducible refine (HA.out _ (hkp.drewN _)).mono ?_); rintro e w3 ⟨m, ev, rfl, hor, hb3⟩; have hb3 := (below_drewN wr.heap.size wr (nq + 1)).trans (hb3.mono (below_drewN wr.heap.size wr (nq + 1)).size); have F1 := Lib.hid (show w3.cell? ⟨R, 0, none⟩ = some (.string s) ∧ w3.cell? ⟨R, 1, none⟩ = some (.int .i64 ((i : Int) + (k : Int))) from ⟨(HRS.out.below hb3).c0, by have := (HRS.out.below hb3).c1; rwa [Int.natCast_add] at this⟩)))
          all_goals
            rcases hor.out with ⟨rfl, rfl⟩ | ⟨te, pe, rfl, hV⟩
            · go_wp2_with fail
              go_ret
              exact ⟨rfl, hkp.then hb3, HRS.out.below hb3⟩
            · have hV := Lib.hid hV
              go_wp2_with fail
              go_ret
              exact ⟨by rw [hV.out]; rfl, hkp.then hb3, HRS.out.below hb3⟩
        · have hdg3 : digN u + 1 + k = n := by rw [if_pos (by simp [digB]; omega)] at hdg2; omega
          have t5 : decide (((s[i + k]'hki).toNat : Int) ≤ 57) = true := decide_eq_true (by rw [HC.out]; omega)
          have hg := Lib.hid (show digN (t.drop (k + 1)) + (k + 1) = n by rw [drop_next HDK.out]; omega)
          have hlt : k < n := by omega
          clear hdg2 hdg3
          go_wp2_with fail
          go_quiet (fail)
          go_wp2_with fail
          have hr2 := (HRS.out.drewN nq).set1 ((i : Int) + (k : Int) + 1)
          exact ⟨⟨k + 1, hlt, by rw [show ((i + (k + 1) : Nat) : Int) = (i : Int) + (k : Int) + 1 from by omega]; exact hr2, (hkp.drewN nq).set (Or.inl (by simp)) _, hg⟩, by
            rw [HRS.out.rdAt, show rdAt ((wr.drewN nq).setCell ⟨R, 1, none⟩ (.int .i64 ((i : Int) + (k : Int) + 1))) R = i + k + 1 from by
              have : RS ((wr.drewN nq).setCell ⟨R, 1, none⟩ (.int .i64 ((i : Int) + (k : Int) + 1))) R s ((i + k + 1 : Nat) : Int) d := hr2
              exact this.rdAt]
            omega⟩
end Go.Proofs.YtpaehicfndkliaaGreatDoor.Pa


/- The reader of paths: what each of its parts does; variables of five cells. No condition. -/
namespace Go.Proofs.YtpaehicfndkliaaGreatDoor.Pa
open Go.RowKit Go.Lib Na Go.PN

/-- How this program reads numbers. -/
def NP : Num := ⟨fun t => some (numR t), fun t => some (numR t), fun _ => 4000⟩
theorem numR_back (m : Int) (c : UInt8) (r : List UInt8) (h0 : 0 ≤ m) (h8 : m ≤ 8) (hc : digB c = false) : numR (itoa m ++ c :: r) = (m, c :: r) := by
  have key : ∀ x : UInt8, itoa m = [x] → digB x = true → Lib.atoiAll [x] = .ok m → numR (itoa m ++ c :: r) = (m, c :: r) := by
    intro x he hx hv
    rw [he]
    unfold numR
    have : digN ([x] ++ c :: r) = 1 := by
      show digN (x :: c :: r) = 1
      rw [digN_cons, if_pos hx, digN_cons, hc]
      rfl
    rw [this]
    show (numV [x], c :: r) = _
    unfold numV
    rw [hv]
  rcases (show m = 0 ∨ m = 1 ∨ m = 2 ∨ m = 3 ∨ m = 4 ∨ m = 5 ∨ m = 6 ∨ m = 7 ∨ m = 8 from by omega) with rfl | rfl | rfl | rfl | rfl | rfl | rfl | rfl | rfl
  · exact key 48 (by simp [itoa, decDigits]) (by decide) (by decide)
  · exact key 49 (by simp [itoa, decDigits]) (by decide) (by decide)
  · exact key 50 (by simp [itoa, decDigits]) (by decide) (by decide)
  · exact key 51 (by simp [itoa, decDigits]) (by decide) (by decide)
  · exact key 52 (by simp [itoa, decDigits]) (by decide) (by decide)
  · exact key 53 (by simp [itoa, decDigits]) (by decide) (by decide)
  · exact key 54 (by simp [itoa, decDigits]) (by decide) (by decide)
  · exact key 55 (by simp [itoa, decDigits]) (by decide) (by decide)
  · exact key 56 (by simp [itoa, decDigits]) (by decide) (by decide)
theorem np_good : GN NP where
  mn m c r h0 h8 hc := congrArg some (numR_back m c r h0 h8 hc)
  mx m c r h0 h8 hc := congrArg some (numR_back m c r h0 h8 hc)
  no c r hc := by
    show some (numR (c :: r)) = _
    unfold numR
    rw [digN_cons, hc]
    rfl
  most u := Or.inr (by show 60 ≤ 4000; decide)
/-- What is left of a text. -/
structure Sf (s : ByteArray) (t : List UInt8) : Prop where
  le : t.length ≤ s.size
  dr : s.data.toList.drop (s.size - t.length) = t
theorem Sf.whole (s : ByteArray) : Sf s s.data.toList := by
  have : s.data.toList.length = s.size := by simp
  exact ⟨by omega, by rw [this, Nat.sub_self]; rfl⟩
theorem Sf.of {s : ByteArray} {p t : List UInt8} (h : s.data.toList = p ++ t) : Sf s t := by
  have hz : s.data.toList.length = s.size := by simp
  have h1 := congrArg List.length h
  rw [hz, List.length_append] at h1
  refine ⟨by omega, ?_⟩
  rw [h, show s.size - t.length = p.length from by omega, List.drop_left]
theorem Sf.pre {s : ByteArray} {t : List UInt8} (h : Sf s t) : s.data.toList = s.data.toList.take (s.size - t.length) ++ t := by
  have := (List.take_append_drop (s.size - t.length) s.data.toList).symm
  rwa [h.dr] at this
theorem Sf.suf {s : ByteArray} {t q u : List UInt8} (h : Sf s t) (e : t = q ++ u) : Sf s u := by
  have h1 := h.pre
  rw [e, ← List.append_assoc] at h1
  exact Sf.of h1
/-- Where a reader stands that has this text ahead. -/
abbrev pos (s : ByteArray) (t : List UInt8) : Int := ((s.size - t.length : Nat) : Int)
theorem Sf.next {s : ByteArray} {c : UInt8} {u : List UInt8} (h : Sf s (c :: u)) : Sf s u ∧ ((s.size - (c :: u).length + 1 : Nat) : Int) = pos s u := by
  refine ⟨h.suf (q := [c]) rfl, ?_⟩
  have := h.le
  rw [List.length_cons] at *
  unfold pos
  omega
/-- A variable of five cells. -/
structure Bx (w : World) (b : Nat) (v0 v1 v2 v3 v4 : Value) : Prop where
  c0 : w.cell? ⟨b, 0, none⟩ = some v0
  c1 : w.cell? ⟨b, 1, none⟩ = some v1
  c2 : w.cell? ⟨b, 2, none⟩ = some v2
  c3 : w.cell? ⟨b, 3, none⟩ = some v3
  c4 : w.cell? ⟨b, 4, none⟩ = some v4
  f0 : w.frozen? ⟨b, 0, none⟩ = false
  f1 : w.frozen? ⟨b, 1, none⟩ = false
  f2 : w.frozen? ⟨b, 2, none⟩ = false
  f3 : w.frozen? ⟨b, 3, none⟩ = false
  f4 : w.frozen? ⟨b, 4, none⟩ = false
section
variable {w w' : World} {b : Nat} {v0 v1 v2 v3 v4 : Value} {X : List Nat}
theorem Bx.lt (h : Bx w b v0 v1 v2 v3 v4) : b < w.heap.size := cell_lt h.c0
theorem Bx.keep (h : Bx w b v0 v1 v2 v3 v4) (hk : w'.heap[b]? = w.heap[b]?) : Bx w' b v0 v1 v2 v3 v4 := by
  have e : ∀ j, w'.cell? ⟨b, j, none⟩ = w.cell? ⟨b, j, none⟩ := fun j => World.cell?_of_block (w := w) hk
  have f : ∀ j, w'.frozen? ⟨b, j, none⟩ = w.frozen? ⟨b, j, none⟩ := fun j => World.frozen?_of_block (w := w) hk
  exact ⟨(e _).trans h.c0, (e _).trans h.c1, (e _).trans h.c2, (e _).trans h.c3, (e _).trans h.c4, (f _).trans h.f0, (f _).trans h.f1, (f _).trans h.f2, (f _).trans h.f3, (f _).trans h.f4⟩
theorem Bx.kp (h : Bx w b v0 v1 v2 v3 v4) (hk : Kp X w w') (hx : b ∉ X) : Bx w' b v0 v1 v2 v3 v4 := h.keep (hk.block b h.lt hx)
theorem Bx.below (h : Bx w b v0 v1 v2 v3 v4) (hb : Below w.heap.size w w') : Bx w' b v0 v1 v2 v3 v4 := h.keep (hb.block b h.lt)
theorem Bx.al (h : Bx w b v0 v1 v2 v3 v4) (o : Obj) : Bx (w.alloc o) b v0 v1 v2 v3 v4 := h.below ((Below.refl _ _).alloc (Nat.le_refl _) o)
theorem Bx.drewN (h : Bx w b v0 v1 v2 v3 v4) (n : Nat) : Bx (w.drewN n) b v0 v1 v2 v3 v4 := h.below (below_drewN _ _ _)
theorem Bx.far (h : Bx w b v0 v1 v2 v3 v4) {p : Addr} (hp : p.block ≠ b) (v : Value) : Bx (w.setCell p v) b v0 v1 v2 v3 v4 := h.keep (Below.heap_setCell _ _ _ _ (Ne.symm hp))
theorem Bx.new (w : World) (v0 v1 v2 v3 v4 : Value) (T : TypeId) : Bx (w.alloc (.cells #[v0, v1, v2, v3, v4] T)) w.heap.size v0 v1 v2 v3 v4 := by
  refine ⟨?_, ?_, ?_, ?_, ?_, ?_, ?_, ?_, ?_, ?_⟩ <;> go_simp
theorem Bx.set3 (h : Bx w b v0 v1 v2 v3 v4) (x : Int) : Bx (w.setCell ⟨b, 3, none⟩ (.int .i64 x)) b v0 v1 v2 (.int .i64 x) v4 := by
  have h0 := h.c0; have h1 := h.c1; have h2 := h.c2; have h3 := h.c3; have h4 := h.c4; have g0 := h.f0; have g1 := h.f1; have g2 := h.f2; have g3 := h.f3; have g4 := h.f4
  refine ⟨?_, ?_, ?_, ?_, ?_, ?_, ?_, ?_, ?_, ?_⟩ <;> go_simp
theorem Bx.set4 (h : Bx w b v0 v1 v2 v3 v4) (x : Int) : Bx (w.setCell ⟨b, 4, none⟩ (.int .i64 x)) b v0 v1 v2 v3 (.int .i64 x) := by
  have h0 := h.c0; have h1 := h.c1; have h2 := h.c2; have h3 := h.c3; have h4 := h.c4; have g0 := h.f0; have g1 := h.f1; have g2 := h.f2; have g3 := h.f3; have g4 := h.f4
  refine ⟨?_, ?_, ?_, ?_, ?_, ?_, ?_, ?_, ?_, ?_⟩ <;> go_simp
end
/-- Five cells written. -/
abbrev put5 (w : World) (b : Nat) (v0 v1 v2 v3 v4 : Value) : World := ((((w.setCell ⟨b, 0, none⟩ v0).setCell ⟨b, 1, none⟩ v1).setCell ⟨b, 2, none⟩ v2).setCell ⟨b, 3, none⟩ v3).setCell ⟨b, 4, none⟩ v4
section
variable {w w' : World} {b : Nat} {v0 v1 v2 v3 v4 u0 u1 u2 u3 u4 : Value} {X : List Nat}
theorem Kp.w5 (h : Kp X w w') (hb : b ∈ X ∨ w.heap.size ≤ b) : Kp X w (put5 w' b v0 v1 v2 v3 v4) :=
  ((((h.set (p := ⟨b, 0, none⟩) hb _).set (p := ⟨b, 1, none⟩) hb _).set (p := ⟨b, 2, none⟩) hb _).set (p := ⟨b, 3, none⟩) hb _).set (p := ⟨b, 4, none⟩) hb _
theorem RS.w5 {R : Nat} {s : ByteArray} {i d : Int} (h : RS w R s i d) (hb : b ≠ R) : RS (put5 w b v0 v1 v2 v3 v4) R s i d :=
  ((((h.far (p := ⟨b, 0, none⟩) hb _).far (p := ⟨b, 1, none⟩) hb _).far (p := ⟨b, 2, none⟩) hb _).far (p := ⟨b, 3, none⟩) hb _).far (p := ⟨b, 4, none⟩) hb _
theorem Nd.ok.w5 {a : Nd} (h : a.ok w X) (hb : b ∈ X) : a.ok (put5 w b v0 v1 v2 v3 v4) X :=
  ((((h.set (p := ⟨b, 0, none⟩) hb _).set (p := ⟨b, 1, none⟩) hb _).set (p := ⟨b, 2, none⟩) hb _).set (p := ⟨b, 3, none⟩) hb _).set (p := ⟨b, 4, none⟩) hb _
theorem Nd.ok.grow2 {a : Nd} {Y : List Nat} (h : a.ok w X) (hY : ∀ y, y ∈ Y → y ∈ X ∨ w.heap.size ≤ y) : a.ok w Y := ⟨h.1, h.2.1, h.2.2.grow hY⟩
theorem Kp.nd2 {a : Nd} {Y : List Nat} (h : Kp X w w') (hY : ∀ x ∈ X, x ∈ Y) (ha : a.ok w Y) : a.ok w' Y := ha.keep fun b h1 h2 => h.block b h1 fun hx => h2 (hY b hx)
theorem Bx.w5 (h : Bx w b u0 u1 u2 u3 u4) : Bx (put5 w b v0 v1 v2 v3 v4) b v0 v1 v2 v3 v4 := by
  have h0 := h.c0; have h1 := h.c1; have h2 := h.c2; have h3 := h.c3; have h4 := h.c4; have g0 := h.f0; have g1 := h.f1; have g2 := h.f2; have g3 := h.f3; have g4 := h.f4
  refine ⟨?_, ?_, ?_, ?_, ?_, ?_, ?_, ?_, ?_, ?_⟩ <;> go_simp
theorem Bx.far5 {b2 : Nat} (h : Bx w b u0 u1 u2 u3 u4) (hb : b2 ≠ b) : Bx (put5 w b2 v0 v1 v2 v3 v4) b u0 u1 u2 u3 u4 :=
  ((((h.far (p := ⟨b2, 0, none⟩) hb _).far (p := ⟨b2, 1, none⟩) hb _).far (p := ⟨b2, 2, none⟩) hb _).far (p := ⟨b2, 3, none⟩) hb _).far (p := ⟨b2, 4, none⟩) hb _
end
/-- What a part of the reader does. -/
def RdP (R : Nat) (X : List Nat) (s : ByteArray) (d : Int) (r : Option (Fo × List UInt8)) (w : World) (e : Ending) (w' : World) : Prop :=
  match r with
  | some (p, u) => ∃ a : Nd, e = .returned a.v ∧ a.fo .nil = p ∧ a.ok w' X ∧ Kp [R] w w' ∧ RS w' R s (pos s u) d
  | none => Left R w e w'
def hd (c : UInt8) (t : List UInt8) : Bool := t.head? == some c
theorem hd_true {c : UInt8} {t : List UInt8} (h : hd c t = true) : ∃ u, t = c :: u := by
  cases t with
  | nil => cases h
  | cons b u => exact ⟨u, by unfold hd at h; simp at h; rw [h]⟩
theorem is_rd (R : Nat) (s : ByteArray) (d : Int) (c : UInt8) (cv : Int) (hcv : (c.toNat : Int) = cv) (t : List UInt8) (w : World) (h : RS w R s (pos s t) d) (ht : Sf s t) (hm : s.size ≤ 1000000) :
    Calls Tryz.prog 117 #[.pointer (some ⟨R, 0, none⟩), .int .u8 cv] w fun e w' => e = .returned (.bool (hd c t)) ∧ Kp [R] w w' ∧ RS w' R s (pos s (if hd c t then t.tail else t)) d := by
  subst hcv
  rcases t with _ | ⟨b, u⟩
  · exact is_end R s _ d c w h ht.dr (by omega)
  · by_cases e : b = c
    · subst e
      have e1 : hd b (b :: u) = true := by simp [hd]
      rw [e1]
      have h2 := is_that R s _ d b u w h ht.dr (by omega)
      rw [ht.next.2] at h2
      exact h2
    · have e1 : hd c (b :: u) = false := by unfold hd; simpa using e
      rw [e1]
      exact is_other R s _ d b c u w h ht.dr (by omega) e
theorem num_rd2 (R : Nat) (s : ByteArray) (d : Int) (t : List UInt8) (w : World) (h : RS w R s (pos s t) d) (ht : Sf s t) (hm : s.size ≤ 1000000) (hE : Er w R) :
    Calls Tryz.prog 126 #[.pointer (some ⟨R, 0, none⟩)] w fun e w' => e = .returned (.int .i64 (numR t).1) ∧ Kp [R] w w' ∧ RS w' R s (pos s (numR t).2) d :=
  num_rd R s _ d t w h ht.dr (by omega) hm hE
theorem numR_suf (t : List UInt8) : t = t.take (digN t) ++ (numR t).2 := (List.take_append_drop _ _).symm
theorem name_rd2 (R : Nat) (s : ByteArray) (d : Int) (t : List UInt8) (w : World) (h : RS w R s (pos s t) d) (ht : Sf s t) (hm : s.size ≤ 1000000) :
    Calls Tryz.prog 125 #[.pointer (some ⟨R, 0, none⟩)] w (NameRd R s d t w) := name_rd R s _ d t w h ht.dr (by omega) hm
theorem hd_false {c : UInt8} {t : List UInt8} (h : hd c t = false) : t.head? ≠ some c := by
  intro e; unfold hd at h; rw [e] at h; simp at h
theorem repR_no1 {N : Num} {p : Fo} {t u : List UInt8} {m : Int} (h : N.mn t = some (m, u)) (hh : hd 44 u = false) : repR N p t = none := by
  unfold repR; rw [h]; simp only; rw [if_neg (hd_false hh)]
theorem repR_no2 {N : Num} {p : Fo} {t u v : List UInt8} {m x : Int} (h : N.mn t = some (m, 44 :: u)) (h2 : N.mx u = some (x, v)) (hh : hd 125 v = false) : repR N p t = none := by
  unfold repR; rw [h]; simp only [List.head?_cons, if_true, List.tail_cons]; rw [h2]; simp only; rw [if_neg (hd_false hh)]
theorem repR_ok {N : Num} {p : Fo} {t u v : List UInt8} {m x : Int} (h : N.mn t = some (m, 44 :: u)) (h2 : N.mx u = some (x, 125 :: v)) : repR N p t = some (one1 9 [] p m x, v) := by
  unfold repR; rw [h]; simp only [List.head?_cons, if_true, List.tail_cons]; rw [h2]; simp only [List.head?_cons, if_true, List.tail_cons]
/-- One path in a row of its own. -/
theorem at_one {w : World} {X : List Nat} {b : Nat} {a : Nd} (h : Bx w b (.int .i64 a.k) (.string a.l) (.slice a.A a.kids.len a.c) (.int .i64 a.mn) (.int .i64 a.mx)) (ha : a.ok w X) (hb : b ∉ X) : At w X (a.fo .nil) (some ⟨b, 0, none⟩) :=
  ⟨b, 0, a.A, a.c, rfl, hb, ⟨h.c0, h.c1, h.c2, h.c3, h.c4⟩, ha.1, ha.2.1, ha.2.2, trivial⟩
end Go.Proofs.YtpaehicfndkliaaGreatDoor.Pa


/- The walk of the reader's 'rep'. Condition: the reader lies in memory. -/
namespace Go.Proofs.YtpaehicfndkliaaGreatDoor.Pa
open Go.RowKit Go.Lib Na Go.PN

abbrev cells5 (k : Int) (l : ByteArray) (A : Option Addr) (n c : Nat) (mn mx : Int) : Obj := .cells #[.int .i64 k, .string l, .slice A n c, .int .i64 mn, .int .i64 mx] 24
abbrev zero5 : Obj := .cells #[.int .i64 0, .string ⟨#[]⟩, .slice none 0 0, .int .i64 0, .int .i64 0] 24
abbrev repW (w : World) (k : Int) (l : ByteArray) (A : Option Addr) (n c : Nat) (mn mx : Int) : World :=
  (((w.alloc (cells5 k l A n c mn mx)).alloc zero5).alloc (cells5 k l A n c mn mx)).alloc (.cells #[.int .i64 9, .string ⟨#[]⟩, .slice (some ⟨w.heap.size + 1 + 1, 0, none⟩) 1 1, .int .i64 0, .int .i64 0] 24)
set_option maxRecDepth 100000 in
set_option maxHeartbeats 4000000 in
theorem rep_rd (R : Nat) (s : ByteArray) (d : Int) (t : List UInt8) (a : Nd) (w : World) (h : RS w R s (pos s t) d) (ht : Sf s t) (hm : s.size ≤ 1000000) (hE : Er w R) (X : List Nat) (hX : R ∈ X) (hXs : ∀ x ∈ X, x < w.heap.size) (ha : a.ok w X) :
    Calls Tryz.prog 119 #[.pointer (some ⟨R, 0, none⟩), a.v] w (RdP R X s d (repR NP (a.fo .nil) t) w) := by
  obtain ⟨k, l, A, c, mn, mx, kids⟩ := a
  have hRlt := h.lt
  have HXS := Lib.hid hXs
  clear hXs
  have hK4 : Kp [R] w (repW w k l A kids.len c mn mx) := ((((Kp.refl _ _).alloc _).alloc _).alloc _).alloc _
  have HR4 := Lib.hid (show RS (repW w k l A kids.len c mn mx) R s (pos s t) d from (((h.al _).al _).al _).al _)
  have HE4 := Lib.hid (hE.keep hK4)
  have hE0 := Lib.hid hE
  have hne1 : w.heap.size + 1 ∉ [R] := by simp; omega
  have hne2 : w.heap.size + 1 + 1 ∉ [R] := by simp; omega
  have hne3 : w.heap.size + 1 + 1 + 1 ∉ [R] := by simp; omega
  have HZ4 := Lib.hid (show Bx (repW w k l A kids.len c mn mx) (w.heap.size + 1) (.int .i64 0) (.string ⟨#[]⟩) (.slice none 0 0) (.int .i64 0) (.int .i64 0) from by
    have := ((Bx.new (w.alloc (cells5 k l A kids.len c mn mx)) (.int .i64 0) (.string ⟨#[]⟩) (.slice none 0 0) (.int .i64 0) (.int .i64 0) 24).al (cells5 k l A kids.len c mn mx)).al (.cells #[.int .i64 9, .string ⟨#[]⟩, .slice (some ⟨w.heap.size + 1 + 1, 0, none⟩) 1 1, .int .i64 0, .int .i64 0] 24)
    simpa using this)
  have HL4 := Lib.hid (show Bx (repW w k l A kids.len c mn mx) (w.heap.size + 1 + 1) (.int .i64 k) (.string l) (.slice A kids.len c) (.int .i64 mn) (.int .i64 mx) from by
    have := (Bx.new ((w.alloc (cells5 k l A kids.len c mn mx)).alloc zero5) (.int .i64 k) (.string l) (.slice A kids.len c) (.int .i64 mn) (.int .i64 mx) 24).al (.cells #[.int .i64 9, .string ⟨#[]⟩, .slice (some ⟨w.heap.size + 1 + 1, 0, none⟩) 1 1, .int .i64 0, .int .i64 0] 24)
    simpa using this)
  have HO4 := Lib.hid (show Bx (repW w k l A kids.len c mn mx) (w.heap.size + 1 + 1 + 1) (.int .i64 9) (.string ⟨#[]⟩) (.slice (some ⟨w.heap.size + 1 + 1, 0, none⟩) 1 1) (.int .i64 0) (.int .i64 0) from by
    have := Bx.new (((w.alloc (cells5 k l A kids.len c mn mx)).alloc zero5).alloc (cells5 k l A kids.len c mn mx)) (.int .i64 9) (.string ⟨#[]⟩) (.slice (some ⟨w.heap.size + 1 + 1, 0, none⟩) 1 1) (.int .i64 0) (.int .i64 0) 24
    simpa using this)
  have HA4 := Lib.hid (hK4.nd2 (Y := (w.heap.size + 1) :: (w.heap.size + 1 + 1 + 1) :: X) (by simp [hX]) (ha.grow2 (by intro y hy; rcases List.mem_cons.1 hy with e | hy; exact Or.inr (by omega); rcases List.mem_cons.1 hy with e | hy; exact Or.inr (by omega); exact Or.inl hy)))
  have HK4 := Lib.hid hK4
  have HM := Lib.hid hm
  have hs1 := numR_suf t
  obtain ⟨m, u1, hn1⟩ : ∃ m u1, numR t = (m, u1) := ⟨_, _, rfl⟩
  have HN1 := Lib.hid (fun (w1 : World) (h1 : RS w1 R s (pos s t) d) (h2 : Er w1 R) => num_rd2 R s d t w1 h1 ht hm h2)
  rw [hn1] at HN1 hs1
  have hf1 := ht.suf hs1
  have HI1 := Lib.hid (fun (w1 : World) (h1 : RS w1 R s (pos s u1) d) => is_rd R s d 44 44 rfl u1 w1 h1 hf1 hm)
  unfold Nd.v Nd.fo
  simp only
  clear h hE ha hK4
  cases hh : hd 44 u1
  · have HP := Lib.hid (show ∀ p, repR NP p t = none from fun p => repR_no1 (N := NP) (congrArg some hn1) hh)
    rw [HP.out]
    rw [hh] at HI1
    simp only [Bool.false_eq_true, if_false] at HI1
    have HB := Lib.hid (fun (w1 : World) (h1 : RS w1 R s (pos s u1) d) => bad_any R s _ d w1 h1)
    clear hh hs1 hn1
    unfold RdP
    simp only
    go_enter Tryz.func119, Tryz.ntmps119
    go_wp2_with (first
      | (go_at_call 126; (with_reducible refine (HN1.out _ HR4.out HE4.out).mono ?_); rintro e w3 ⟨rfl, hk3, hr3⟩; have HO3 := Lib.hid (HO4.out.kp hk3 hne3); have HR3 := Lib.hid (hr3.far (p := ⟨w.heap.size + 1 + 1 + 1, 3, none⟩) (by show w.heap.size + 1 + 1 + 1 ≠ R; omega) (.int .i64 m)); have q3 := HO3.out.c3; have q4 := HO3.out.f3; have hK3 := Lib.hid ((HK4.out.trans hk3).set (p := ⟨w.heap.size + 1 + 1 + 1, 3, none⟩) (Or.inr (by show w.heap.size ≤ w.heap.size + 1 + 1 + 1; omega)) (.int .i64 m)))
      | (go_at_call 117; (with_reducible refine (HI1.out _ HR3.out).mono ?_); rintro e w4 ⟨rfl, hk4, hr4⟩)
      | (go_at_call 106; (with_reducible refine (HB.out _ hr4).mono ?_); rintro e w' ⟨b, x, rfl, hl1, hl2, hl3, hl4⟩))
    exact ⟨rfl, Left.after (hK3.out.trans hk4) ⟨b, x, rfl, hl1, hl2, hl3, hl4⟩⟩
  · obtain ⟨u2, rfl⟩ := hd_true hh
    have hf2 := hf1.next.1
    rw [hh] at HI1
    simp only [if_true, List.tail_cons] at HI1
    have hs2 := numR_suf u2
    obtain ⟨x, u3, hn2⟩ : ∃ m u, numR u2 = (m, u) := ⟨_, _, rfl⟩
    have HN2 := Lib.hid (fun (w1 : World) (h1 : RS w1 R s (pos s u2) d) (h2 : Er w1 R) => num_rd2 R s d u2 w1 h1 hf2 hm h2)
    rw [hn2] at HN2 hs2
    have hf3 := hf2.suf hs2
    have HI2 := Lib.hid (fun (w1 : World) (h1 : RS w1 R s (pos s u3) d) => is_rd R s d 125 125 rfl u3 w1 h1 hf3 hm)
    -- a store into the new path
    have HST := Lib.hid (fun (w1 w2 : World) (hk : Kp [R] w1 w2) (h4 : w.heap.size + 1 + 1 + 1 < w1.heap.size) (j : Nat) (y : Int) => show Kp [R] w w1 → Kp [R] w (w2.setCell ⟨w.heap.size + 1 + 1 + 1, j, none⟩ (.int .i64 y)) from fun h0 => (h0.trans hk).set (p := ⟨w.heap.size + 1 + 1 + 1, j, none⟩) (Or.inr (by show w.heap.size ≤ w.heap.size + 1 + 1 + 1; omega)) (.int .i64 y))
    have HEW := hE0
    have HCH := Lib.hid (fun (w1 w3 w4 w5 w6 : World) (h3 : Kp [R] w1 w3) (h4 : Kp [R] (w3.setCell ⟨w.heap.size + 1 + 1 + 1, 3, none⟩ (.int .i64 m)) w4) (h5 : Kp [R] w4 w5) (h6 : Kp [R] (w5.setCell ⟨w.heap.size + 1 + 1 + 1, 4, none⟩ (.int .i64 x)) w6) (b : Nat) (v0 v1 v2 v3 v4 : Value) (_ _ : Int) (hb : b ∉ [R]) (hb2 : w.heap.size + 1 + 1 + 1 ≠ b) (h : Bx w1 b v0 v1 v2 v3 v4) => (((((h.kp h3 hb).far (p := ⟨w.heap.size + 1 + 1 + 1, 3, none⟩) hb2 (.int .i64 m)).kp h4 hb).kp h5 hb).far (p := ⟨w.heap.size + 1 + 1 + 1, 4, none⟩) hb2 (.int .i64 x)).kp h6 hb)
    cases hh2 : hd 125 u3
    · have HP := Lib.hid (show ∀ p, repR NP p t = none from fun p => repR_no2 (N := NP) (congrArg some hn1) (congrArg some hn2) hh2)
      rw [HP.out]
      rw [hh2] at HI2
      simp only [Bool.false_eq_true, if_false] at HI2
      have HB := Lib.hid (fun (w1 : World) (h1 : RS w1 R s (pos s u3) d) => bad_any R s _ d w1 h1)
      clear hh hh2 hs1 hn1 hn2 hs2
      unfold RdP
      simp only
      go_enter Tryz.func119, Tryz.ntmps119
      go_wp2_with (first
        | (go_at_call 126; (with_reducible refine (HN1.out _ HR4.out HE4.out).mono ?_); rintro e w3 ⟨rfl, hk3, hr3⟩; have HO3 := Lib.hid ((HO4.out.kp hk3 hne3).set3 m); have q3 := (HO4.out.kp hk3 hne3).c3; have q4 := (HO4.out.kp hk3 hne3).f3; have HR3 := Lib.hid (hr3.far (p := ⟨w.heap.size + 1 + 1 + 1, 3, none⟩) (by show w.heap.size + 1 + 1 + 1 ≠ R; omega) (.int .i64 m)); have hK3 := Lib.hid (HST.out _ w3 hk3 HO4.out.lt 3 m HK4.out))
        | (go_at_call 117; (with_reducible refine (HI1.out _ HR3.out).mono ?_); rintro e w4 ⟨rfl, hk4, hr4⟩; clear q3 q4; have HO4' := Lib.hid (HO3.out.kp hk4 hne3); have hK4 := Lib.hid (hK3.out.trans hk4); have hE4 := Lib.hid (HEW.out.keep hK4.out))
        | (go_at_call 126; (with_reducible refine (HN2.out _ hr4 hE4.out).mono ?_); rintro e w5 ⟨rfl, hk5, hr5⟩; have HO5 := Lib.hid ((HO4'.out.kp hk5 hne3).set4 x); have q3 := (HO4'.out.kp hk5 hne3).c4; have q4 := (HO4'.out.kp hk5 hne3).f4; have HR5 := Lib.hid (hr5.far (p := ⟨w.heap.size + 1 + 1 + 1, 4, none⟩) (by show w.heap.size + 1 + 1 + 1 ≠ R; omega) (.int .i64 x)); have hK5 := Lib.hid (HST.out _ w5 hk5 HO4'.out.lt 4 x hK4.out))
        | (go_at_call 117; (with_reducible refine (HI2.out _ HR5.out).mono ?_); rintro e w6 ⟨rfl, hk6, hr6⟩; clear q3 q4)
        | (go_at_call 106; (with_reducible refine (HB.out _ hr6).mono ?_); rintro e w' ⟨b, x, rfl, hl1, hl2, hl3, hl4⟩))
      exact ⟨rfl, Left.after (hK5.out.trans hk6) ⟨b, x, rfl, hl1, hl2, hl3, hl4⟩⟩
    · obtain ⟨u4, rfl⟩ := hd_true hh2
      have HP := Lib.hid (show ∀ p, repR NP p t = some (one1 9 [] p m x, u4) from fun p => repR_ok (N := NP) (congrArg some hn1) (congrArg some hn2))
      rw [HP.out]
      rw [hh2] at HI2
      simp only [if_true, List.tail_cons] at HI2
      clear hh hh2 hs1 hn1 hn2 hs2
      unfold RdP
      simp only
      go_enter Tryz.func119, Tryz.ntmps119
      go_wp2_with (first
        | (go_at_call 126; (with_reducible refine (HN1.out _ HR4.out HE4.out).mono ?_); rintro e w3 ⟨rfl, hk3, hr3⟩; have HO3 := Lib.hid ((HO4.out.kp hk3 hne3).set3 m); have q3 := (HO4.out.kp hk3 hne3).c3; have q4 := (HO4.out.kp hk3 hne3).f3; have HR3 := Lib.hid (hr3.far (p := ⟨w.heap.size + 1 + 1 + 1, 3, none⟩) (by show w.heap.size + 1 + 1 + 1 ≠ R; omega) (.int .i64 m)); have hK3 := Lib.hid (HST.out _ w3 hk3 HO4.out.lt 3 m HK4.out))
        | (go_at_call 117; (with_reducible refine (HI1.out _ HR3.out).mono ?_); rintro e w4 ⟨rfl, hk4, hr4⟩; clear q3 q4; have HO4' := Lib.hid (HO3.out.kp hk4 hne3); have hK4 := Lib.hid (hK3.out.trans hk4); have hE4 := Lib.hid (HEW.out.keep hK4.out))
        | (go_at_call 126; (with_reducible refine (HN2.out _ hr4 hE4.out).mono ?_); rintro e w5 ⟨rfl, hk5, hr5⟩; have HO5 := Lib.hid ((HO4'.out.kp hk5 hne3).set4 x); have q3 := (HO4'.out.kp hk5 hne3).c4; have q4 := (HO4'.out.kp hk5 hne3).f4; have HR5 := Lib.hid (hr5.far (p := ⟨w.heap.size + 1 + 1 + 1, 4, none⟩) (by show w.heap.size + 1 + 1 + 1 ≠ R; omega) (.int .i64 x)); have hK5 := Lib.hid (HST.out _ w5 hk5 HO4'.out.lt 4 x hK4.out))
        | (go_at_call 117; (with_reducible refine (HI2.out _ HR5.out).mono ?_); rintro e w6 ⟨rfl, hk6, hr6⟩; clear q3 q4; have HO6 := Lib.hid (HO5.out.kp hk6 hne3); have hK6 := Lib.hid (hK5.out.trans hk6); have HZ6 := Lib.hid (HCH.out _ w3 w4 w5 w6 hk3 hk4 hk5 hk6 _ _ _ _ _ _ m x hne1 (by omega) HZ4.out); have HL6 := Lib.hid (HCH.out _ w3 w4 w5 w6 hk3 hk4 hk5 hk6 _ _ _ _ _ _ m x hne2 (by omega) HL4.out); have o0 := HO6.out.c0; have o1 := HO6.out.c1; have o2 := HO6.out.c2; have o3 := HO6.out.c3; have o4 := HO6.out.c4; have z0 := HZ6.out.c0; have z1 := HZ6.out.c1; have z2 := HZ6.out.c2; have z3 := HZ6.out.c3; have z4 := HZ6.out.c4; have y0 := HZ6.out.f0; have y1 := HZ6.out.f1; have y2 := HZ6.out.f2; have y3 := HZ6.out.f3; have y4 := HZ6.out.f4))
      have hA6 : Nd.ok w6 ((w.heap.size + 1) :: (w.heap.size + 1 + 1 + 1) :: X) ⟨k, l, A, c, mn, mx, kids⟩ :=
        hk6.nd2 (by simp [hX]) (((hk5.nd2 (by simp [hX]) (hk4.nd2 (by simp [hX]) ((hk3.nd2 (by simp [hX]) HA4.out).set (p := ⟨w.heap.size + 1 + 1 + 1, 3, none⟩) (by simp) (.int .i64 m))))).set (p := ⟨w.heap.size + 1 + 1 + 1, 4, none⟩) (by simp) (.int .i64 x))
      have HT6 := (at_one (HL6.out.far5 (b2 := w.heap.size + 1) (v0 := .int .i64 9) (v1 := .string ⟨#[]⟩) (v2 := .slice (some ⟨w.heap.size + 1 + 1, 0, none⟩) 1 1) (v3 := .int .i64 m) (v4 := .int .i64 x) (by omega)) (hA6.w5 (b := w.heap.size + 1) (by simp)) (by intro hx; rcases List.mem_cons.1 hx with e | hx; omega; rcases List.mem_cons.1 hx with e | hx; omega; have := HXS.out _ hx; omega)).less (Y := X) (by intro y hy; simp [hy])
      exact bodyPost_ret (v := .agg #[.int .i64 9, .string ⟨#[]⟩, .slice (some ⟨w.heap.size + 1 + 1, 0, none⟩) 1 1, .int .i64 m, .int .i64 x]) (by simp [results, Tryz.results119, go_sem, z0, z1, z2, z3, z4]) rfl ⟨⟨9, ⟨#[]⟩, some ⟨w.heap.size + 1 + 1, 0, none⟩, 1, m, x, .cons k l kids mn mx .nil⟩, rfl, rfl, ⟨by simp [Fo.len], by simp, HT6⟩, (hK6.out).w5 (Or.inr (by omega)), hr6.w5 (by omega)⟩
end Go.Proofs.YtpaehicfndkliaaGreatDoor.Pa


/- The walk of the reader's 'atom'. Condition: the reader lies in memory; what 'alt' does is known. -/
namespace Go.Proofs.YtpaehicfndkliaaGreatDoor.Pa
open Go.RowKit Go.Lib Na Go.PN

theorem name_yes {R : Nat} {s : ByteArray} {d : Int} {t l v : List UInt8} (w : World) (hn : nameR t = some (l, v)) (h : RS w R s (pos s t) d) (ht : Sf s t) (hm : s.size ≤ 1000000) :
    Calls Tryz.prog 125 #[.pointer (some ⟨R, 0, none⟩)] w fun e w' => e = .returned (strV l) ∧ Kp [R] w w' ∧ RS w' R s (pos s v) d := by
  have h1 := name_rd2 R s d t w h ht hm
  have e : NameRd R s d t w = fun e w' => e = .returned (strV l) ∧ Kp [R] w w' ∧ RS w' R s (pos s v) d := by
    funext e w'; unfold NameRd; rw [hn]
  rwa [e] at h1
theorem name_no {R : Nat} {s : ByteArray} {d : Int} {t : List UInt8} (w : World) (hn : nameR t = none) (h : RS w R s (pos s t) d) (ht : Sf s t) (hm : s.size ≤ 1000000) :
    Calls Tryz.prog 125 #[.pointer (some ⟨R, 0, none⟩)] w (Left R w) := by
  have h1 := name_rd2 R s d t w h ht hm
  have e : NameRd R s d t w = Left R w := by
    funext e w'; unfold NameRd; rw [hn]
  rwa [e] at h1
theorem rdp_some {R : Nat} {X : List Nat} {s : ByteArray} {d : Int} {r : Option (Fo × List UInt8)} {w : World} {p : Fo} {u : List UInt8} (h : r = some (p, u)) : RdP R X s d r w = fun e w' => ∃ a : Nd, e = .returned a.v ∧ a.fo .nil = p ∧ a.ok w' X ∧ Kp [R] w w' ∧ RS w' R s (pos s u) d := by
  subst h; rfl
theorem rdp_none {R : Nat} {X : List Nat} {s : ByteArray} {d : Int} {r : Option (Fo × List UInt8)} {w : World} (h : r = none) : RdP R X s d r w = Left R w := by
  subst h; rfl
/-- What is asked of a part of the reader. -/
def Rds (f : Nat) (R : Nat) (s : ByteArray) (d : Int) (sp : Rd) : Prop :=
  ∀ (X : List Nat) (t : List UInt8) (w : World), R ∈ X → (∀ x ∈ X, x < w.heap.size) → Sf s t → RS w R s (pos s t) d → Er w R → Calls Tryz.prog f #[.pointer (some ⟨R, 0, none⟩)] w (RdP R X s d (sp t) w)
theorem atomR_esc {alt : Rd} {u : List UInt8} : atomR alt (94 :: u) = (nameR u).map fun x => (one1 3 x.1 .nil 0 0, x.2) := by
  unfold atomR; simp only [if_true]
theorem atomR_br {alt : Rd} {u : List UInt8} : atomR alt (40 :: u) = if u.head? = some 41 then some (one1 1 [] .nil 0 0, u.tail)
      else match alt u with
        | some (p, v) => if v.head? = some 41 then some (p, v.tail) else none
        | none => none := by
  unfold atomR; simp only; rw [if_neg (by decide), if_pos trivial]
  split
  · rfl
  · cases alt u <;> rfl
theorem atomR_name {alt : Rd} {t : List UInt8} (h1 : hd 94 t = false) (h2 : hd 40 t = false) : atomR alt t = (nameR t).map fun x => (one1 2 x.1 .nil 0 0, x.2) := by
  cases t with
  | nil => rfl
  | cons c u =>
    unfold atomR; simp only
    rw [if_neg (by intro e; subst e; simp [hd] at h1), if_neg (by intro e; subst e; simp [hd] at h2)]
set_option maxRecDepth 100000 in
set_option maxHeartbeats 8000000 in
theorem atom_rd (R : Nat) (s : ByteArray) (d : Int) (alt : Rd) (hm : s.size ≤ 1000000) (HA0 : Rds 88 R s d alt) (hsuf : ∀ t p u, alt t = some (p, u) → ∃ q, t = q ++ u) : Rds 118 R s d (atomR alt) := by
  intro X t w hX hXs ht h hE
  have HX := Lib.hid hX
  have HXS := Lib.hid hXs
  clear hX hXs
  have hRlt := h.lt
  have hne : w.heap.size ∉ [R] := by simp; omega
  have HR1 := Lib.hid (h.al zero5)
  have HK1 := Lib.hid ((Kp.refl [R] w).alloc zero5)
  have HE1 := Lib.hid (hE.keep HK1.out)
  have HZ1 := Lib.hid (Bx.new w (.int .i64 0) (.string ⟨#[]⟩) (.slice none 0 0) (.int .i64 0) (.int .i64 0) 24)
  have HIa := Lib.hid (fun (w1 : World) (h1 : RS w1 R s (pos s t) d) => is_rd R s d 94 94 rfl t w1 h1 ht hm)
  have HA := Lib.hid HA0
  clear h hE HA0
  cases h94 : hd 94 t
  · rw [h94] at HIa
    simp only [Bool.false_eq_true, if_false] at HIa
    have HIb := Lib.hid (fun (w1 : World) (h1 : RS w1 R s (pos s t) d) => is_rd R s d 40 40 rfl t w1 h1 ht hm)
    cases h40 : hd 40 t
    · rw [h40] at HIb
      simp only [Bool.false_eq_true, if_false] at HIb
      rw [atomR_name h94 h40]
      rcases hn : nameR t with _ | ⟨l, v⟩
      · have HN := Lib.hid (fun (w1 : World) (h1 : RS w1 R s (pos s t) d) => name_no w1 hn h1 ht hm)
        rw [rdp_none (by rfl)]
        clear h94 h40 hn
        go_enter Tryz.func118, Tryz.ntmps118
        go_wp2_with (first
          | (go_at_call 117; (with_reducible refine (HIa.out _ HR1.out).mono ?_); rintro e w2 ⟨rfl, hk2, hr2⟩; have HR2 := Lib.hid hr2; have HK2 := Lib.hid (HK1.out.trans hk2); have HZ2 := Lib.hid (HZ1.out.kp hk2 hne); have HE2 := Lib.hid (HE1.out.keep hk2); clear hk2 hr2)
          | (go_at_call 117; (with_reducible refine (HIb.out _ HR2.out).mono ?_); rintro e w3 ⟨rfl, hk3, hr3⟩; have HR3 := Lib.hid hr3; have HK3 := Lib.hid (HK2.out.trans hk3); have HZ3 := Lib.hid (HZ2.out.kp hk3 hne); have HE3 := Lib.hid (HE2.out.keep hk3); clear hk3 hr3)
          | (go_at_call 125; (with_reducible refine (HN.out _ HR3.out).mono ?_); rintro e w' ⟨b, x, rfl, hl1, hl2, hl3, hl4⟩))
        exact ⟨rfl, Left.after HK3.out ⟨b, x, rfl, hl1, hl2, hl3, hl4⟩⟩
      · have HN := Lib.hid (fun (w1 : World) (h1 : RS w1 R s (pos s t) d) => name_yes w1 hn h1 ht hm)
        rw [rdp_some (by rfl)]
        clear h94 h40 hn
        go_enter Tryz.func118, Tryz.ntmps118
        go_wp2_with (first
          | (go_at_call 117; (with_reducible refine (HIa.out _ HR1.out).mono ?_); rintro e w2 ⟨rfl, hk2, hr2⟩; have HR2 := Lib.hid hr2; have HK2 := Lib.hid (HK1.out.trans hk2); have HZ2 := Lib.hid (HZ1.out.kp hk2 hne); have HE2 := Lib.hid (HE1.out.keep hk2); clear hk2 hr2)
          | (go_at_call 117; (with_reducible refine (HIb.out _ HR2.out).mono ?_); rintro e w3 ⟨rfl, hk3, hr3⟩; have HR3 := Lib.hid hr3; have HK3 := Lib.hid (HK2.out.trans hk3); have HZ3 := Lib.hid (HZ2.out.kp hk3 hne); have HE3 := Lib.hid (HE2.out.keep hk3); clear hk3 hr3)
          | (go_at_call 125; (with_reducible refine (HN.out _ HR3.out).mono ?_); rintro e w4 ⟨rfl, hk4, hr4⟩; have HR4 := Lib.hid hr4; have HK4 := Lib.hid (HK3.out.trans hk4); have HZ4 := Lib.hid (HZ3.out.kp hk4 hne); clear hk4 hr4; have z0 := HZ4.out.c0; have y0 := HZ4.out.f0; have z1 := HZ4.out.c1; have y1 := HZ4.out.f1; have z2 := HZ4.out.c2; have y2 := HZ4.out.f2; have z3 := HZ4.out.c3; have y3 := HZ4.out.f3; have z4 := HZ4.out.c4; have y4 := HZ4.out.f4))
        exact bodyPost_ret (v := .agg #[.int .i64 2, strV l, .slice none 0 0, .int .i64 0, .int .i64 0]) (by simp [results, Tryz.results118, go_sem, z0, z1, z2, z3, z4]) rfl ⟨⟨2, ⟨l.toArray⟩, none, 0, 0, 0, .nil⟩, rfl, rfl, ⟨Nat.le_refl _, by simp, trivial⟩, HK4.out.w5 (Or.inr (Nat.le_refl _)), HR4.out.w5 (by omega)⟩
    · obtain ⟨u, rfl⟩ := hd_true h40
      rw [h40] at HIb
      simp only [if_true, List.tail_cons] at HIb
      have hf := ht.next.1
      have HIc := Lib.hid (fun (w1 : World) (h1 : RS w1 R s (pos s u) d) => is_rd R s d 41 41 rfl u w1 h1 hf hm)
      rw [atomR_br]
      cases h41 : hd 41 u
      · rw [h41] at HIc
        simp only [Bool.false_eq_true, if_false] at HIc
        rw [if_neg (hd_false h41)]
        have HAL := Lib.hid (fun (w1 : World) (h0 : w.heap.size < w1.heap.size) (h1 : RS w1 R s (pos s u) d) (h2 : Er w1 R) => HA.out (w.heap.size :: X) u w1 (List.mem_cons_of_mem _ HX.out) (fun x hx => by rcases List.mem_cons.1 hx with rfl | hx; exact h0; have := HXS.out x hx; omega) hf h1 h2)
        rcases hx : alt u with _ | ⟨p, v⟩
        · rw [rdp_none (by rfl)]
          rw [hx] at HAL
          have HAL2 : Hid (∀ w1 : World, w.heap.size < w1.heap.size → RS w1 R s (pos s u) d → Er w1 R → Calls Tryz.prog 88 #[.pointer (some ⟨R, 0, none⟩)] w1 (Left R w1)) := HAL.out
          clear h94 h40 h41 hx HAL
          go_enter Tryz.func118, Tryz.ntmps118
          go_wp2_with (first
            | (go_at_call 117; (with_reducible refine (HIa.out _ HR1.out).mono ?_); rintro e w2 ⟨rfl, hk2, hr2⟩; have HR2 := Lib.hid hr2; have HK2 := Lib.hid (HK1.out.trans hk2); have HZ2 := Lib.hid (HZ1.out.kp hk2 hne); have HE2 := Lib.hid (HE1.out.keep hk2); clear hk2 hr2)
            | (go_at_call 117; (with_reducible refine (HIb.out _ HR2.out).mono ?_); rintro e w3 ⟨rfl, hk3, hr3⟩; have HR3 := Lib.hid hr3; have HK3 := Lib.hid (HK2.out.trans hk3); have HZ3 := Lib.hid (HZ2.out.kp hk3 hne); have HE3 := Lib.hid (HE2.out.keep hk3); clear hk3 hr3)
            | (go_at_call 117; (with_reducible refine (HIc.out _ HR3.out).mono ?_); rintro e w4 ⟨rfl, hk4, hr4⟩; have HR4 := Lib.hid hr4; have HK4 := Lib.hid (HK3.out.trans hk4); have HZ4 := Lib.hid (HZ3.out.kp hk4 hne); have HE4 := Lib.hid (HE3.out.keep hk4); clear hk4 hr4)
            | (go_at_call 88; (with_reducible refine (HAL2.out _ HZ4.out.lt HR4.out HE4.out).mono ?_); rintro e w' ⟨b, x, rfl, hl1, hl2, hl3, hl4⟩))
          exact ⟨rfl, Left.after HK4.out ⟨b, x, rfl, hl1, hl2, hl3, hl4⟩⟩
        · rw [hx] at HAL
          have HAL2 : Hid (∀ w1 : World, w.heap.size < w1.heap.size → RS w1 R s (pos s u) d → Er w1 R → Calls Tryz.prog 88 #[.pointer (some ⟨R, 0, none⟩)] w1 fun e w' => ∃ a : Nd, e = .returned a.v ∧ a.fo .nil = p ∧ a.ok w' (w.heap.size :: X) ∧ Kp [R] w1 w' ∧ RS w' R s (pos s v) d) := HAL.out
          obtain ⟨q, hq⟩ := hsuf u p v hx
          have hfv := hf.suf hq
          have HId := Lib.hid (fun (w1 : World) (h1 : RS w1 R s (pos s v) d) => is_rd R s d 41 41 rfl v w1 h1 hfv hm)
          simp only
          have ALT : True := trivial
          cases h41b : hd 41 v
          · rw [h41b] at HId
            simp only [Bool.false_eq_true, if_false] at HId
            rw [if_neg (hd_false h41b), rdp_none (by rfl)]
            have HB := Lib.hid (fun (w1 : World) (h1 : RS w1 R s (pos s v) d) => bad_any R s _ d w1 h1)
            clear h94 h40 h41 hx HAL h41b
            go_enter Tryz.func118, Tryz.ntmps118
            go_wp2_with (first
              | (go_at_call 117; (with_reducible refine (HIa.out _ HR1.out).mono ?_); rintro e w2 ⟨rfl, hk2, hr2⟩; have HR2 := Lib.hid hr2; have HK2 := Lib.hid (HK1.out.trans hk2); have HZ2 := Lib.hid (HZ1.out.kp hk2 hne); have HE2 := Lib.hid (HE1.out.keep hk2); clear hk2 hr2)
              | (go_at_call 117; (with_reducible refine (HIb.out _ HR2.out).mono ?_); rintro e w3 ⟨rfl, hk3, hr3⟩; have HR3 := Lib.hid hr3; have HK3 := Lib.hid (HK2.out.trans hk3); have HZ3 := Lib.hid (HZ2.out.kp hk3 hne); have HE3 := Lib.hid (HE2.out.keep hk3); clear hk3 hr3)
              | (go_at_call 117; (with_reducible refine (HIc.out _ HR3.out).mono ?_); rintro e w4 ⟨rfl, hk4, hr4⟩; have HR4 := Lib.hid hr4; have HK4 := Lib.hid (HK3.out.trans hk4); have HZ4 := Lib.hid (HZ3.out.kp hk4 hne); have HE4 := Lib.hid (HE3.out.keep hk4); clear hk4 hr4)
              | (go_at_call 88; (with_reducible refine (HAL2.out _ HZ4.out.lt HR4.out HE4.out).mono ?_); rintro e w5 ⟨⟨k, l, A, c, mn, mx, kids⟩, rfl, hp, hok, hk5, hr5⟩; have HP := Lib.hid hp; have HOK := Lib.hid hok; have HK5 := Lib.hid ((HK4.out.trans hk5).alloc (cells5 k l A kids.len c mn mx)); have HR5 := Lib.hid (hr5.al (cells5 k l A kids.len c mn mx)); have HZ5 := Lib.hid ((HZ4.out.kp hk5 hne).al (cells5 k l A kids.len c mn mx)); have HE5 := Lib.hid ((HE4.out.keep hk5).below ((Below.refl _ _).alloc (Nat.le_refl _) (cells5 k l A kids.len c mn mx))); clear hp hok hk5 hr5)
              | (go_at_call 117; (with_reducible refine (HId.out _ HR5.out).mono ?_); rintro e w6 ⟨rfl, hk6, hr6⟩; have HR6 := Lib.hid hr6; have HK6 := Lib.hid (HK5.out.trans hk6); have HZ6 := Lib.hid (HZ5.out.kp hk6 hne); have HE6 := Lib.hid (HE5.out.keep hk6); clear hk6 hr6)
              | (go_at_call 106; (with_reducible refine (HB.out _ HR6.out).mono ?_); rintro e w' ⟨b, x, rfl, hl1, hl2, hl3, hl4⟩))
            exact ⟨rfl, Left.after HK6.out ⟨b, x, rfl, hl1, hl2, hl3, hl4⟩⟩
          · obtain ⟨v2, rfl⟩ := hd_true h41b
            rw [h41b] at HId
            simp only [if_true, List.tail_cons] at HId
            rw [if_pos (by rfl), rdp_some (by rfl)]
            clear h94 h40 h41 hx HAL h41b
            go_enter Tryz.func118, Tryz.ntmps118
            go_wp2_with (first
              | (go_at_call 117; (with_reducible refine (HIa.out _ HR1.out).mono ?_); rintro e w2 ⟨rfl, hk2, hr2⟩; have HR2 := Lib.hid hr2; have HK2 := Lib.hid (HK1.out.trans hk2); have HZ2 := Lib.hid (HZ1.out.kp hk2 hne); have HE2 := Lib.hid (HE1.out.keep hk2); clear hk2 hr2)
              | (go_at_call 117; (with_reducible refine (HIb.out _ HR2.out).mono ?_); rintro e w3 ⟨rfl, hk3, hr3⟩; have HR3 := Lib.hid hr3; have HK3 := Lib.hid (HK2.out.trans hk3); have HZ3 := Lib.hid (HZ2.out.kp hk3 hne); have HE3 := Lib.hid (HE2.out.keep hk3); clear hk3 hr3)
              | (go_at_call 117; (with_reducible refine (HIc.out _ HR3.out).mono ?_); rintro e w4 ⟨rfl, hk4, hr4⟩; have HR4 := Lib.hid hr4; have HK4 := Lib.hid (HK3.out.trans hk4); have HZ4 := Lib.hid (HZ3.out.kp hk4 hne); have HE4 := Lib.hid (HE3.out.keep hk4); clear hk4 hr4)
              | (go_at_call 88; (with_reducible refine (HAL2.out _ HZ4.out.lt HR4.out HE4.out).mono ?_); rintro e w5 ⟨⟨k, l, A, c, mn, mx, kids⟩, rfl, hp, hok, hk5, hr5⟩; have HP := Lib.hid hp; have HOK := Lib.hid hok; have hws := hk5.size; have hzz := HZ4.out.lt; have hb5 : w5.heap.size ∉ [R] := (by simp; have := hr5.lt; omega); have HB5 := Lib.hid (Bx.new w5 (.int .i64 k) (.string l) (.slice A kids.len c) (.int .i64 mn) (.int .i64 mx) 24); have HOK5 := Lib.hid ((hok.al (cells5 k l A kids.len c mn mx))); have HK5 := Lib.hid ((HK4.out.trans hk5).alloc (cells5 k l A kids.len c mn mx)); have HR5 := Lib.hid (hr5.al (cells5 k l A kids.len c mn mx)); have HZ5 := Lib.hid ((HZ4.out.kp hk5 hne).al (cells5 k l A kids.len c mn mx)); have HE5 := Lib.hid ((HE4.out.keep hk5).below ((Below.refl _ _).alloc (Nat.le_refl _) (cells5 k l A kids.len c mn mx))); clear hp hok hk5 hr5)
              | (go_at_call 117; (with_reducible refine (HId.out _ HR5.out).mono ?_); rintro e w6 ⟨rfl, hk6, hr6⟩; have HR6 := Lib.hid hr6; have HK6 := Lib.hid (HK5.out.trans hk6); have HZ6 := Lib.hid (HZ5.out.kp hk6 hne); have HE6 := Lib.hid (HE5.out.keep hk6); have z0 := HZ6.out.c0; have y0 := HZ6.out.f0; have z1 := HZ6.out.c1; have y1 := HZ6.out.f1; have z2 := HZ6.out.c2; have y2 := HZ6.out.f2; have z3 := HZ6.out.c3; have y3 := HZ6.out.f3; have z4 := HZ6.out.c4; have y4 := HZ6.out.f4; have HB6 := Lib.hid (HB5.out.kp hk6 hb5); have HOK6 := Lib.hid (hk6.nd2 (Y := w.heap.size :: X) (by simp [HX.out]) HOK5.out); have x0 := HB6.out.c0; have x1 := HB6.out.c1; have x2 := HB6.out.c2; have x3 := HB6.out.c3; have x4 := HB6.out.c4; clear hk6 hr6))
            exact bodyPost_ret (v := .agg #[.int .i64 k, .string l, .slice A kids.len c, .int .i64 mn, .int .i64 mx]) (by simp [results, Tryz.results118, go_sem, z0, z1, z2, z3, z4]) rfl ⟨⟨k, l, A, c, mn, mx, kids⟩, rfl, HP.out, (HOK6.out.w5 (b := w.heap.size) (by simp)).less (by intro y hy; simp [hy]), HK6.out.w5 (Or.inr (Nat.le_refl _)), HR6.out.w5 (by omega)⟩
      · obtain ⟨v, rfl⟩ := hd_true h41
        rw [h41] at HIc
        simp only [if_true, List.tail_cons] at HIc
        rw [if_pos (by rfl), rdp_some (by rfl)]
        clear h94 h40 h41
        go_enter Tryz.func118, Tryz.ntmps118
        go_wp2_with (first
          | (go_at_call 117; (with_reducible refine (HIa.out _ HR1.out).mono ?_); rintro e w2 ⟨rfl, hk2, hr2⟩; have HR2 := Lib.hid hr2; have HK2 := Lib.hid (HK1.out.trans hk2); have HZ2 := Lib.hid (HZ1.out.kp hk2 hne); have HE2 := Lib.hid (HE1.out.keep hk2); clear hk2 hr2)
          | (go_at_call 117; (with_reducible refine (HIb.out _ HR2.out).mono ?_); rintro e w3 ⟨rfl, hk3, hr3⟩; have HR3 := Lib.hid hr3; have HK3 := Lib.hid (HK2.out.trans hk3); have HZ3 := Lib.hid (HZ2.out.kp hk3 hne); have HE3 := Lib.hid (HE2.out.keep hk3); clear hk3 hr3)
          | (go_at_call 117; (with_reducible refine (HIc.out _ HR3.out).mono ?_); rintro e w4 ⟨rfl, hk4, hr4⟩; have HR4 := Lib.hid hr4; have HK4 := Lib.hid (HK3.out.trans hk4); have HZ4 := Lib.hid (HZ3.out.kp hk4 hne); have HE4 := Lib.hid (HE3.out.keep hk4); have z0 := HZ4.out.c0; have y0 := HZ4.out.f0; have z1 := HZ4.out.c1; have y1 := HZ4.out.f1; have z2 := HZ4.out.c2; have y2 := HZ4.out.f2; have z3 := HZ4.out.c3; have y3 := HZ4.out.f3; have z4 := HZ4.out.c4; have y4 := HZ4.out.f4; clear hk4 hr4))
        exact bodyPost_ret (v := .agg #[.int .i64 1, .string ⟨#[]⟩, .slice none 0 0, .int .i64 0, .int .i64 0]) (by simp [results, Tryz.results118, go_sem, z0, z1, z2, z3, z4]) rfl ⟨⟨1, ⟨#[]⟩, none, 0, 0, 0, .nil⟩, rfl, rfl, ⟨Nat.le_refl _, by simp, trivial⟩, HK4.out.w5 (Or.inr (Nat.le_refl _)), HR4.out.w5 (by omega)⟩
  · obtain ⟨u, rfl⟩ := hd_true h94
    rw [h94] at HIa
    simp only [if_true, List.tail_cons] at HIa
    have hf := ht.next.1
    rw [atomR_esc]
    rcases hn : nameR u with _ | ⟨l, v⟩
    · have HN := Lib.hid (fun (w1 : World) (h1 : RS w1 R s (pos s u) d) => name_no w1 hn h1 hf hm)
      rw [rdp_none (by rfl)]
      clear h94 hn
      go_enter Tryz.func118, Tryz.ntmps118
      go_wp2_with (first
        | (go_at_call 117; (with_reducible refine (HIa.out _ HR1.out).mono ?_); rintro e w2 ⟨rfl, hk2, hr2⟩; have HR2 := Lib.hid hr2; have HK2 := Lib.hid (HK1.out.trans hk2); have HZ2 := Lib.hid (HZ1.out.kp hk2 hne); have HE2 := Lib.hid (HE1.out.keep hk2); clear hk2 hr2)
        | (go_at_call 125; (with_reducible refine (HN.out _ HR2.out).mono ?_); rintro e w' ⟨b, x, rfl, hl1, hl2, hl3, hl4⟩))
      exact ⟨rfl, Left.after HK2.out ⟨b, x, rfl, hl1, hl2, hl3, hl4⟩⟩
    · have HN := Lib.hid (fun (w1 : World) (h1 : RS w1 R s (pos s u) d) => name_yes w1 hn h1 hf hm)
      rw [rdp_some (by rfl)]
      clear h94 hn
      go_enter Tryz.func118, Tryz.ntmps118
      go_wp2_with (first
        | (go_at_call 117; (with_reducible refine (HIa.out _ HR1.out).mono ?_); rintro e w2 ⟨rfl, hk2, hr2⟩; have HR2 := Lib.hid hr2; have HK2 := Lib.hid (HK1.out.trans hk2); have HZ2 := Lib.hid (HZ1.out.kp hk2 hne); have HE2 := Lib.hid (HE1.out.keep hk2); clear hk2 hr2)
        | (go_at_call 125; (with_reducible refine (HN.out _ HR2.out).mono ?_); rintro e w3 ⟨rfl, hk3, hr3⟩; have HR3 := Lib.hid hr3; have HK3 := Lib.hid (HK2.out.trans hk3); have HZ3 := Lib.hid (HZ2.out.kp hk3 hne); clear hk3 hr3; have z0 := HZ3.out.c0; have y0 := HZ3.out.f0; have z1 := HZ3.out.c1; have y1 := HZ3.out.f1; have z2 := HZ3.out.c2; have y2 := HZ3.out.f2; have z3 := HZ3.out.c3; have y3 := HZ3.out.f3; have z4 := HZ3.out.c4; have y4 := HZ3.out.f4))
      exact bodyPost_ret (v := .agg #[.int .i64 3, strV l, .slice none 0 0, .int .i64 0, .int .i64 0]) (by simp [results, Tryz.results118, go_sem, z0, z1, z2, z3, z4]) rfl ⟨⟨3, ⟨l.toArray⟩, none, 0, 0, 0, .nil⟩, rfl, rfl, ⟨Nat.le_refl _, by simp, trivial⟩, HK3.out.w5 (Or.inr (Nat.le_refl _)), HR3.out.w5 (by omega)⟩
end Go.Proofs.YtpaehicfndkliaaGreatDoor.Pa


/- The walk of the reader's 'post'. Condition: the reader lies in memory; what 'alt' does is known. -/
namespace Go.Proofs.YtpaehicfndkliaaGreatDoor.Pa
open Go.RowKit Go.Lib Na Go.PN

theorem postL_sign {N : Num} {n : Nat} {p : Fo} {t u : List UInt8} (c : UInt8) (k : Int) (h : t = c :: u) (hc : (c = 42 ∧ k = 6) ∨ (c = 43 ∧ k = 7) ∨ (c = 63 ∧ k = 8)) : postL N (n + 1) p t = postL N n (one1 k [] p 0 0) u := by
  subst h
  rcases hc with ⟨rfl, rfl⟩ | ⟨rfl, rfl⟩ | ⟨rfl, rfl⟩ <;> rfl
theorem postL_rep {N : Num} {n : Nat} {p : Fo} {u : List UInt8} : postL N (n + 1) p (123 :: u) = match repR N p u with | some (q, v) => postL N n q v | none => none := by
  rw [postL, if_neg (by decide), if_neg (by decide), if_neg (by decide), if_pos rfl]
  cases repR N p u <;> rfl
theorem postL_none {N : Num} {n : Nat} {p : Fo} {t : List UInt8} (h1 : hd 42 t = false) (h2 : hd 43 t = false) (h3 : hd 63 t = false) (h4 : hd 123 t = false) : postL N n p t = some (p, t) := by
  cases n with
  | zero => rfl
  | succ n =>
    cases t with
    | nil => rfl
    | cons c u =>
      rw [postL, if_neg, if_neg, if_neg, if_neg]
      · intro e; subst e; simp [hd] at h4
      · intro e; subst e; simp [hd] at h3
      · intro e; subst e; simp [hd] at h2
      · intro e; subst e; simp [hd] at h1
theorem repR_suf {p q : Fo} {t v : List UInt8} (h : repR NP p t = some (q, v)) : ∃ r, t = r ++ v := by
  obtain ⟨a, h1⟩ : ∃ a, t = a ++ (numR t).2 := ⟨_, numR_suf t⟩
  unfold repR at h
  have e1 : NP.mn t = some (numR t) := rfl
  rw [e1] at h
  obtain ⟨m, u, hn⟩ : ∃ m u, numR t = (m, u) := ⟨_, _, rfl⟩
  rw [hn] at h h1
  simp only at h
  split at h
  · rename_i hh
    obtain ⟨u2, rfl⟩ : ∃ u2, u = 44 :: u2 := by
      cases u with
      | nil => cases hh
      | cons c u2 => injection hh with hh; subst hh; exact ⟨u2, rfl⟩
    obtain ⟨b, h2⟩ : ∃ b, u2 = b ++ (numR u2).2 := ⟨_, numR_suf u2⟩
    have e2 : NP.mx (44 :: u2).tail = some (numR u2) := rfl
    rw [e2] at h
    obtain ⟨x, u3, hn2⟩ : ∃ m u, numR u2 = (m, u) := ⟨_, _, rfl⟩
    rw [hn2] at h h2
    simp only at h h1 h2
    split at h
    · rename_i hh2
      cases u3 with
      | nil => cases hh2
      | cons c u4 =>
        injection h with h
        injection h with _ h
        simp only [List.tail_cons] at h
        subst h
        exact ⟨a ++ 44 :: (b ++ [c]), by rw [h1, h2]; simp⟩
    · cases h
  · cases h
theorem zsub {n : Nat} (h : n < 4000) : 4000 - n = 3999 - n + 1 := by omega
set_option maxRecDepth 100000 in
set_option maxHeartbeats 16000000 in
theorem post_rd (R : Nat) (s : ByteArray) (d : Int) (at_ : Rd) (hm : s.size ≤ 1000000) (HA0 : Rds 118 R s d at_) (hsuf : ∀ t p u, at_ t = some (p, u) → ∃ q, t = q ++ u) : Rds 109 R s d (postR NP at_) := by
  intro X t w hX hXs ht h hE
  have HX := Lib.hid hX
  have HXS := Lib.hid hXs
  clear hX hXs
  have hRlt := h.lt
  have hneZ : w.heap.size ∉ [R] := by simp; omega
  have HR1 := Lib.hid (h.al zero5)
  have HK1 := Lib.hid ((Kp.refl [R] w).alloc zero5)
  have HE1 := Lib.hid (hE.keep HK1.out)
  have HER := Lib.hid (fun (w' : World) (hk : Kp [R] w w') => hE.keep hk)
  have HZ1 := Lib.hid (Bx.new w (.int .i64 0) (.string ⟨#[]⟩) (.slice none 0 0) (.int .i64 0) (.int .i64 0) 24)
  have HA := Lib.hid (fun (w1 : World) (h0 : w.heap.size < w1.heap.size) (h1 : RS w1 R s (pos s t) d) (h2 : Er w1 R) => HA0 (w.heap.size :: X) t w1 (List.mem_cons_of_mem _ HX.out) (fun x hx => by rcases List.mem_cons.1 hx with rfl | hx; exact h0; have := HXS.out x hx; omega) ht h1 h2)
  clear h hE HA0
  have hz1 : w.heap.size < (w.alloc zero5).heap.size := by simp
  have HZL := Lib.hid hz1
  clear hz1
  rcases hx : at_ t with _ | ⟨p0, u0⟩
  · have e : postR NP at_ t = none := by unfold postR; rw [hx]
    rw [rdp_none e]
    rw [hx] at HA
    have HA2 : Hid (∀ w1 : World, w.heap.size < w1.heap.size → RS w1 R s (pos s t) d → Er w1 R → Calls Tryz.prog 118 #[.pointer (some ⟨R, 0, none⟩)] w1 (Left R w1)) := HA.out
    clear hx HA e
    go_enter Tryz.func109, Tryz.ntmps109
    go_wp2_with (go_at_call 118; (with_reducible refine (HA2.out _ HZL.out HR1.out HE1.out).mono ?_); rintro e w' ⟨b, x, rfl, hl1, hl2, hl3, hl4⟩)
    exact ⟨rfl, Left.after HK1.out ⟨b, x, rfl, hl1, hl2, hl3, hl4⟩⟩
  · obtain ⟨q0, hq0⟩ := hsuf t p0 u0 hx
    have hf0 := Lib.hid (ht.suf hq0)
    have e : postR NP at_ t = postL NP 4000 p0 u0 := by unfold postR; rw [hx]; rfl
    rw [e]
    rw [hx] at HA
    have HA2 : Hid (∀ w1 : World, w.heap.size < w1.heap.size → RS w1 R s (pos s t) d → Er w1 R → Calls Tryz.prog 118 #[.pointer (some ⟨R, 0, none⟩)] w1 fun e w' => ∃ a : Nd, e = .returned a.v ∧ a.fo .nil = p0 ∧ a.ok w' (w.heap.size :: X) ∧ Kp [R] w1 w' ∧ RS w' R s (pos s u0) d) := HA.out
    have HM := Lib.hid hm
    obtain ⟨RES, hRES⟩ : ∃ RES, postL NP 4000 p0 u0 = RES := ⟨_, rfl⟩
    rw [hRES]
    have HRES := Lib.hid hRES
    clear hx HA e hRES hq0
    go_enter Tryz.func109, Tryz.ntmps109
    go_wp2_with (go_at_call 118; (with_reducible refine (HA2.out _ HZL.out HR1.out HE1.out).mono ?_); rintro e w2 ⟨⟨k0, l0, A0, c0, mn0, mx0, kids0⟩, rfl, hp, hok, hk2, hr2⟩; have HP := Lib.hid hp; have hzz : w.heap.size < w2.heap.size := Nat.lt_of_lt_of_le HZL.out hk2.size; have hneP : w2.heap.size ∉ [R] := (by simp; omega); have HB2 := Lib.hid (Bx.new w2 (.int .i64 k0) (.string l0) (.slice A0 kids0.len c0) (.int .i64 mn0) (.int .i64 mx0) 24); have HO2 := Lib.hid ((hok.grow2 (Y := w.heap.size :: w2.heap.size :: X) (by intro y hy; rcases List.mem_cons.1 hy with e | hy; exact Or.inl (by simp [e]); rcases List.mem_cons.1 hy with e | hy; exact Or.inr (by omega); exact Or.inl (by simp [hy]))).al (cells5 k0 l0 A0 kids0.len c0 mn0 mx0)); have HK2 := Lib.hid ((HK1.out.trans hk2).alloc (cells5 k0 l0 A0 kids0.len c0 mn0 mx0)); have HR2 := Lib.hid (hr2.al (cells5 k0 l0 A0 kids0.len c0 mn0 mx0)); have HZ2 := Lib.hid ((HZ1.out.kp hk2 hneZ).al (cells5 k0 l0 A0 kids0.len c0 mn0 mx0)); have HE2 := Lib.hid ((HE1.out.keep hk2).below ((Below.refl _ _).alloc (Nat.le_refl _) (cells5 k0 l0 A0 kids0.len c0 mn0 mx0))); clear hp hok hk2 hr2)
    go_loopw [6] (fun iv wr => ∃ (i : Nat) (k : Int) (l : ByteArray) (A : Option Addr) (c : Nat) (mn mx : Int) (kids : Fo) (tc : List UInt8), iv = .int .i64 i ∧ i ≤ 4000 ∧ Hid (Sf s tc) ∧ Hid (RS wr R s (pos s tc) d) ∧ Hid (Kp [R] w wr) ∧ Hid (Er wr R) ∧ Hid (Bx wr w.heap.size (.int .i64 0) (.string ⟨#[]⟩) (.slice none 0 0) (.int .i64 0) (.int .i64 0)) ∧ Hid (Bx wr w2.heap.size (.int .i64 k) (.string l) (.slice A kids.len c) (.int .i64 mn) (.int .i64 mx)) ∧ Hid (Nd.ok wr (w.heap.size :: w2.heap.size :: X) ⟨k, l, A, c, mn, mx, kids⟩) ∧ Hid (postL NP (4000 - i) (.cons k l kids mn mx .nil) tc = RES)) (fun iv _ => 4000 - (RowKit.intOf iv).toNat)
    case atStart => exact ⟨0, k0, l0, A0, c0, mn0, mx0, kids0, u0, rfl, by omega, hf0, HR2, HK2, HE2, HZ2, HB2, HO2, by rw [show Fo.cons k0 l0 kids0 mn0 mx0 .nil = p0 from HP.out]; exact HRES⟩
    case round =>
      obtain ⟨i, k, l, A, c, mn, mx, kids, tc, rfl, hi, HF, HR5, HK5, HE5, HZ5, HB5, HO5, HRE⟩ := hrel
      clear HR2 HK2 HE2 HZ2 HB2 HO2 hf0 HRES HP HR1 HK1 HE1 HZ1
      have hpz : w.heap.size ≠ w2.heap.size := by omega
      by_cases hlt : i < 4000
      · have tl : decide ((i : Int) < 4000) = true := decide_eq_true (by omega)
        have HIa := Lib.hid (fun (w1 : World) (h1 : RS w1 R s (pos s tc) d) => is_rd R s d 42 42 rfl tc w1 h1 HF.out HM.out)
        have HIb := Lib.hid (fun (w1 : World) (h1 : RS w1 R s (pos s tc) d) => is_rd R s d 43 43 rfl tc w1 h1 HF.out HM.out)
        have HIc := Lib.hid (fun (w1 : World) (h1 : RS w1 R s (pos s tc) d) => is_rd R s d 63 63 rfl tc w1 h1 HF.out HM.out)
        have HId := Lib.hid (fun (w1 : World) (h1 : RS w1 R s (pos s tc) d) => is_rd R s d 123 123 rfl tc w1 h1 HF.out HM.out)
        cases ha : hd 42 tc
        rotate_left
        · obtain ⟨uc, rfl⟩ := hd_true ha
          rw [ha] at HIa
          simp only [if_true, List.tail_cons] at HIa
          have hfu := Lib.hid HF.out.next.1
          have hre := Lib.hid (show postL NP (4000 - (i + 1)) (.cons 6 ⟨#[]⟩ (.cons k l kids mn mx .nil) 0 0 .nil) uc = RES by
            rw [← HRE.out, zsub hlt, postL_sign 42 6 rfl (by simp), show 4000 - (i + 1) = 3999 - i from by omega]; rfl)
          clear ha
          go_wp2_with (first
            | (go_at_call 117; (with_reducible refine (HIa.out _ HR5.out).mono ?_); rintro e w6 ⟨rfl, hk6, hr6⟩; have HR6 := Lib.hid hr6; have HK6 := Lib.hid (HK5.out.trans hk6); have HZ6 := Lib.hid (HZ5.out.kp hk6 hneZ); have HB6 := Lib.hid (HB5.out.kp hk6 hneP); have HO6 := Lib.hid (hk6.nd2 (by simp [HX.out]) HO5.out); have HE6 := Lib.hid (HE5.out.keep hk6); clear hk6 hr6; have x0 := HB6.out.c0; have x1 := HB6.out.c1; have x2 := HB6.out.c2; have x3 := HB6.out.c3; have x4 := HB6.out.c4; have HBL := Lib.hid (HB6.out.al (cells5 k l A kids.len c mn mx)); have p0 := HBL.out.c0; have o0 := HBL.out.f0; have p1 := HBL.out.c1; have o1 := HBL.out.f1; have p2 := HBL.out.c2; have o2 := HBL.out.f2; have p3 := HBL.out.c3; have o3 := HBL.out.f3; have p4 := HBL.out.c4; have o4 := HBL.out.f4))
          have hlb : w6.heap.size ∉ w.heap.size :: w2.heap.size :: X := by
            have := HZ6.out.lt
            have := HB6.out.lt
            intro hx; rcases List.mem_cons.1 hx with e | hx
            · omega
            rcases List.mem_cons.1 hx with e | hx
            · omega
            · have := HXS.out _ hx; omega
          have hBN := (Bx.new w6 (.int .i64 k) (.string l) (.slice A kids.len c) (.int .i64 mn) (.int .i64 mx) 24).far5 (b2 := w2.heap.size) (v0 := .int .i64 6) (v1 := .string ⟨#[]⟩) (v2 := .slice (some ⟨w6.heap.size, 0, none⟩) 1 1) (v3 := .int .i64 0) (v4 := .int .i64 0) (by have := HB6.out.lt; omega)
          have hOK := ((HO6.out.al (cells5 k l A kids.len c mn mx)).w5 (b := w2.heap.size) (v0 := .int .i64 6) (v1 := .string ⟨#[]⟩) (v2 := .slice (some ⟨w6.heap.size, 0, none⟩) 1 1) (v3 := .int .i64 0) (v4 := .int .i64 0) (by simp))
          have hk9 := (HK6.out.alloc (cells5 k l A kids.len c mn mx)).w5 (b := w2.heap.size) (v0 := .int .i64 6) (v1 := .string ⟨#[]⟩) (v2 := .slice (some ⟨w6.heap.size, 0, none⟩) 1 1) (v3 := .int .i64 0) (v4 := .int .i64 0) (Or.inr (by omega))
          have hstep : Kp [R] w6 (put5 (w6.alloc (cells5 k l A kids.len c mn mx)) w2.heap.size (.int .i64 6) (.string ⟨#[]⟩) (.slice (some ⟨w6.heap.size, 0, none⟩) 1 1) (.int .i64 0) (.int .i64 0)) ∨ True := Or.inr trivial
          have hE9 : Er (put5 (w6.alloc (cells5 k l A kids.len c mn mx)) w2.heap.size (.int .i64 6) (.string ⟨#[]⟩) (.slice (some ⟨w6.heap.size, 0, none⟩) 1 1) (.int .i64 0) (.int .i64 0)) R := HER.out _ hk9
          exact ⟨⟨i + 1, 6, ⟨#[]⟩, some ⟨w6.heap.size, 0, none⟩, 1, 0, 0, .cons k l kids mn mx .nil, uc, by go_num, by omega, hfu, (HR6.out.al _).w5 (by omega), hk9, hE9, (HZ6.out.al _).far5 (by omega), HBL.out.w5, ⟨by simp [Fo.len], by simp, at_one hBN hOK hlb⟩, hre⟩, by simp [RowKit.intOf]; omega⟩

        cases hb : hd 43 tc
        rotate_left
        · rw [ha] at HIa
          simp only [Bool.false_eq_true, if_false] at HIa
          obtain ⟨uc, rfl⟩ := hd_true hb
          rw [hb] at HIb
          simp only [if_true, List.tail_cons] at HIb
          have hfu := Lib.hid HF.out.next.1
          have hre := Lib.hid (show postL NP (4000 - (i + 1)) (.cons 7 ⟨#[]⟩ (.cons k l kids mn mx .nil) 0 0 .nil) uc = RES by
            rw [← HRE.out, zsub hlt, postL_sign 43 7 rfl (by simp), show 4000 - (i + 1) = 3999 - i from by omega]; rfl)
          clear ha hb
          go_wp2_with (first
            | (go_at_call 117; (with_reducible refine (HIa.out _ HR5.out).mono ?_); rintro e w6 ⟨rfl, hk6, hr6⟩; have HR6 := Lib.hid hr6; have HK6 := Lib.hid (HK5.out.trans hk6); have HZ6 := Lib.hid (HZ5.out.kp hk6 hneZ); have HB6 := Lib.hid (HB5.out.kp hk6 hneP); have HO6 := Lib.hid (hk6.nd2 (by simp [HX.out]) HO5.out); have HE6 := Lib.hid (HE5.out.keep hk6); clear hk6 hr6)
            | (go_at_call 117; (with_reducible refine (HIb.out _ HR6.out).mono ?_); rintro e w7 ⟨rfl, hk7, hr7⟩; have HR7 := Lib.hid hr7; have HK7 := Lib.hid (HK6.out.trans hk7); have HZ7 := Lib.hid (HZ6.out.kp hk7 hneZ); have HB7 := Lib.hid (HB6.out.kp hk7 hneP); have HO7 := Lib.hid (hk7.nd2 (by simp [HX.out]) HO6.out); have HE7 := Lib.hid (HE6.out.keep hk7); clear hk7 hr7; have x0 := HB7.out.c0; have x1 := HB7.out.c1; have x2 := HB7.out.c2; have x3 := HB7.out.c3; have x4 := HB7.out.c4; have HBL := Lib.hid (HB7.out.al (cells5 k l A kids.len c mn mx)); have p0 := HBL.out.c0; have o0 := HBL.out.f0; have p1 := HBL.out.c1; have o1 := HBL.out.f1; have p2 := HBL.out.c2; have o2 := HBL.out.f2; have p3 := HBL.out.c3; have o3 := HBL.out.f3; have p4 := HBL.out.c4; have o4 := HBL.out.f4))
          have hlb : w7.heap.size ∉ w.heap.size :: w2.heap.size :: X := by
            have := HZ7.out.lt
            have := HB7.out.lt
            intro hx; rcases List.mem_cons.1 hx with e | hx
            · omega
            rcases List.mem_cons.1 hx with e | hx
            · omega
            · have := HXS.out _ hx; omega
          have hBN := (Bx.new w7 (.int .i64 k) (.string l) (.slice A kids.len c) (.int .i64 mn) (.int .i64 mx) 24).far5 (b2 := w2.heap.size) (v0 := .int .i64 7) (v1 := .string ⟨#[]⟩) (v2 := .slice (some ⟨w7.heap.size, 0, none⟩) 1 1) (v3 := .int .i64 0) (v4 := .int .i64 0) (by have := HB7.out.lt; omega)
          have hOK := ((HO7.out.al (cells5 k l A kids.len c mn mx)).w5 (b := w2.heap.size) (v0 := .int .i64 7) (v1 := .string ⟨#[]⟩) (v2 := .slice (some ⟨w7.heap.size, 0, none⟩) 1 1) (v3 := .int .i64 0) (v4 := .int .i64 0) (by simp))
          have hk9 := (HK7.out.alloc (cells5 k l A kids.len c mn mx)).w5 (b := w2.heap.size) (v0 := .int .i64 7) (v1 := .string ⟨#[]⟩) (v2 := .slice (some ⟨w7.heap.size, 0, none⟩) 1 1) (v3 := .int .i64 0) (v4 := .int .i64 0) (Or.inr (by omega))
          have hstep : Kp [R] w7 (put5 (w7.alloc (cells5 k l A kids.len c mn mx)) w2.heap.size (.int .i64 7) (.string ⟨#[]⟩) (.slice (some ⟨w7.heap.size, 0, none⟩) 1 1) (.int .i64 0) (.int .i64 0)) ∨ True := Or.inr trivial
          have hE9 : Er (put5 (w7.alloc (cells5 k l A kids.len c mn mx)) w2.heap.size (.int .i64 7) (.string ⟨#[]⟩) (.slice (some ⟨w7.heap.size, 0, none⟩) 1 1) (.int .i64 0) (.int .i64 0)) R := HER.out _ hk9
          exact ⟨⟨i + 1, 7, ⟨#[]⟩, some ⟨w7.heap.size, 0, none⟩, 1, 0, 0, .cons k l kids mn mx .nil, uc, by go_num, by omega, hfu, (HR7.out.al _).w5 (by omega), hk9, hE9, (HZ7.out.al _).far5 (by omega), HBL.out.w5, ⟨by simp [Fo.len], by simp, at_one hBN hOK hlb⟩, hre⟩, by simp [RowKit.intOf]; omega⟩

        cases hc : hd 63 tc
        rotate_left
        · rw [ha] at HIa
          simp only [Bool.false_eq_true, if_false] at HIa
          rw [hb] at HIb
          simp only [Bool.false_eq_true, if_false] at HIb
          obtain ⟨uc, rfl⟩ := hd_true hc
          rw [hc] at HIc
          simp only [if_true, List.tail_cons] at HIc
          have hfu := Lib.hid HF.out.next.1
          have hre := Lib.hid (show postL NP (4000 - (i + 1)) (.cons 8 ⟨#[]⟩ (.cons k l kids mn mx .nil) 0 0 .nil) uc = RES by
            rw [← HRE.out, zsub hlt, postL_sign 63 8 rfl (by simp), show 4000 - (i + 1) = 3999 - i from by omega]; rfl)
          clear ha hb hc
          go_wp2_with (first
            | (go_at_call 117; (with_reducible refine (HIa.out _ HR5.out).mono ?_); rintro e w6 ⟨rfl, hk6, hr6⟩; have HR6 := Lib.hid hr6; have HK6 := Lib.hid (HK5.out.trans hk6); have HZ6 := Lib.hid (HZ5.out.kp hk6 hneZ); have HB6 := Lib.hid (HB5.out.kp hk6 hneP); have HO6 := Lib.hid (hk6.nd2 (by simp [HX.out]) HO5.out); have HE6 := Lib.hid (HE5.out.keep hk6); clear hk6 hr6)
            | (go_at_call 117; (with_reducible refine (HIb.out _ HR6.out).mono ?_); rintro e w7 ⟨rfl, hk7, hr7⟩; have HR7 := Lib.hid hr7; have HK7 := Lib.hid (HK6.out.trans hk7); have HZ7 := Lib.hid (HZ6.out.kp hk7 hneZ); have HB7 := Lib.hid (HB6.out.kp hk7 hneP); have HO7 := Lib.hid (hk7.nd2 (by simp [HX.out]) HO6.out); have HE7 := Lib.hid (HE6.out.keep hk7); clear hk7 hr7)
            | (go_at_call 117; (with_reducible refine (HIc.out _ HR7.out).mono ?_); rintro e w8 ⟨rfl, hk8, hr8⟩; have HR8 := Lib.hid hr8; have HK8 := Lib.hid (HK7.out.trans hk8); have HZ8 := Lib.hid (HZ7.out.kp hk8 hneZ); have HB8 := Lib.hid (HB7.out.kp hk8 hneP); have HO8 := Lib.hid (hk8.nd2 (by simp [HX.out]) HO7.out); have HE8 := Lib.hid (HE7.out.keep hk8); clear hk8 hr8; have x0 := HB8.out.c0; have x1 := HB8.out.c1; have x2 := HB8.out.c2; have x3 := HB8.out.c3; have x4 := HB8.out.c4; have HBL := Lib.hid (HB8.out.al (cells5 k l A kids.len c mn mx)); have p0 := HBL.out.c0; have o0 := HBL.out.f0; have p1 := HBL.out.c1; have o1 := HBL.out.f1; have p2 := HBL.out.c2; have o2 := HBL.out.f2; have p3 := HBL.out.c3; have o3 := HBL.out.f3; have p4 := HBL.out.c4; have o4 := HBL.out.f4))
          have hlb : w8.heap.size ∉ w.heap.size :: w2.heap.size :: X := by
            have := HZ8.out.lt
            have := HB8.out.lt
            intro hx; rcases List.mem_cons.1 hx with e | hx
            · omega
            rcases List.mem_cons.1 hx with e | hx
            · omega
            · have := HXS.out _ hx; omega
          have hBN := (Bx.new w8 (.int .i64 k) (.string l) (.slice A kids.len c) (.int .i64 mn) (.int .i64 mx) 24).far5 (b2 := w2.heap.size) (v0 := .int .i64 8) (v1 := .string ⟨#[]⟩) (v2 := .slice (some ⟨w8.heap.size, 0, none⟩) 1 1) (v3 := .int .i64 0) (v4 := .int .i64 0) (by have := HB8.out.lt; omega)
          have hOK := ((HO8.out.al (cells5 k l A kids.len c mn mx)).w5 (b := w2.heap.size) (v0 := .int .i64 8) (v1 := .string ⟨#[]⟩) (v2 := .slice (some ⟨w8.heap.size, 0, none⟩) 1 1) (v3 := .int .i64 0) (v4 := .int .i64 0) (by simp))
          have hk9 := (HK8.out.alloc (cells5 k l A kids.len c mn mx)).w5 (b := w2.heap.size) (v0 := .int .i64 8) (v1 := .string ⟨#[]⟩) (v2 := .slice (some ⟨w8.heap.size, 0, none⟩) 1 1) (v3 := .int .i64 0) (v4 := .int .i64 0) (Or.inr (by omega))
          have hstep : Kp [R] w8 (put5 (w8.alloc (cells5 k l A kids.len c mn mx)) w2.heap.size (.int .i64 8) (.string ⟨#[]⟩) (.slice (some ⟨w8.heap.size, 0, none⟩) 1 1) (.int .i64 0) (.int .i64 0)) ∨ True := Or.inr trivial
          have hE9 : Er (put5 (w8.alloc (cells5 k l A kids.len c mn mx)) w2.heap.size (.int .i64 8) (.string ⟨#[]⟩) (.slice (some ⟨w8.heap.size, 0, none⟩) 1 1) (.int .i64 0) (.int .i64 0)) R := HER.out _ hk9
          exact ⟨⟨i + 1, 8, ⟨#[]⟩, some ⟨w8.heap.size, 0, none⟩, 1, 0, 0, .cons k l kids mn mx .nil, uc, by go_num, by omega, hfu, (HR8.out.al _).w5 (by omega), hk9, hE9, (HZ8.out.al _).far5 (by omega), HBL.out.w5, ⟨by simp [Fo.len], by simp, at_one hBN hOK hlb⟩, hre⟩, by simp [RowKit.intOf]; omega⟩

        cases hd : hd 123 tc
        rotate_left
        · rw [ha] at HIa
          simp only [Bool.false_eq_true, if_false] at HIa
          rw [hb] at HIb
          simp only [Bool.false_eq_true, if_false] at HIb
          rw [hc] at HIc
          simp only [Bool.false_eq_true, if_false] at HIc
          obtain ⟨uc, rfl⟩ := hd_true hd
          rw [hd] at HId
          simp only [if_true, List.tail_cons] at HId
          have hfu := Lib.hid HF.out.next.1
          have HRP := Lib.hid (fun (w1 : World) (h0 : w2.heap.size < w1.heap.size) (h1 : RS w1 R s (pos s uc) d) (h2 : Er w1 R) (h3 : Nd.ok w1 (w.heap.size :: w2.heap.size :: X) ⟨k, l, A, c, mn, mx, kids⟩) => rep_rd R s d uc ⟨k, l, A, c, mn, mx, kids⟩ w1 h1 hfu.out HM.out h2 (w.heap.size :: w2.heap.size :: X) (by simp [HX.out]) (fun x hx => by
            rcases List.mem_cons.1 hx with e | hx
            · omega
            rcases List.mem_cons.1 hx with e | hx
            · omega
            · have := HXS.out _ hx; omega) h3)
          rcases hrp : repR NP (.cons k l kids mn mx .nil) uc with _ | ⟨q, v⟩
          · have hre := Lib.hid (show RES = none by
              rw [← HRE.out, zsub hlt, postL_rep, hrp])
            have HRP2 : Hid (∀ w1 : World, w2.heap.size < w1.heap.size → RS w1 R s (pos s uc) d → Er w1 R → Nd.ok w1 (w.heap.size :: w2.heap.size :: X) ⟨k, l, A, c, mn, mx, kids⟩ → Calls Tryz.prog 119 #[.pointer (some ⟨R, 0, none⟩), .agg #[.int .i64 k, .string l, .slice A kids.len c, .int .i64 mn, .int .i64 mx]] w1 (Left R w1)) := fun w1 h0 h1 h2 h3 => by
              have := HRP.out w1 h0 h1 h2 h3
              rwa [rdp_none (r := repR NP (Nd.fo ⟨k, l, A, c, mn, mx, kids⟩ .nil) uc) hrp] at this
            rw [rdp_none hre.out]
            clear hrp HRP ha hb hc hd
            go_wp2_with (first
              | (go_at_call 117; (with_reducible refine (HIa.out _ HR5.out).mono ?_); rintro e w6 ⟨rfl, hk6, hr6⟩; have HR6 := Lib.hid hr6; have HK6 := Lib.hid (HK5.out.trans hk6); have HZ6 := Lib.hid (HZ5.out.kp hk6 hneZ); have HB6 := Lib.hid (HB5.out.kp hk6 hneP); have HO6 := Lib.hid (hk6.nd2 (by simp [HX.out]) HO5.out); have HE6 := Lib.hid (HE5.out.keep hk6); clear hk6 hr6)
              | (go_at_call 117; (with_reducible refine (HIb.out _ HR6.out).mono ?_); rintro e w7 ⟨rfl, hk7, hr7⟩; have HR7 := Lib.hid hr7; have HK7 := Lib.hid (HK6.out.trans hk7); have HZ7 := Lib.hid (HZ6.out.kp hk7 hneZ); have HB7 := Lib.hid (HB6.out.kp hk7 hneP); have HO7 := Lib.hid (hk7.nd2 (by simp [HX.out]) HO6.out); have HE7 := Lib.hid (HE6.out.keep hk7); clear hk7 hr7)
              | (go_at_call 117; (with_reducible refine (HIc.out _ HR7.out).mono ?_); rintro e w8 ⟨rfl, hk8, hr8⟩; have HR8 := Lib.hid hr8; have HK8 := Lib.hid (HK7.out.trans hk8); have HZ8 := Lib.hid (HZ7.out.kp hk8 hneZ); have HB8 := Lib.hid (HB7.out.kp hk8 hneP); have HO8 := Lib.hid (hk8.nd2 (by simp [HX.out]) HO7.out); have HE8 := Lib.hid (HE7.out.keep hk8); clear hk8 hr8)
              | (go_at_call 117; (with_reducible refine (HId.out _ HR8.out).mono ?_); rintro e w9 ⟨rfl, hk9, hr9⟩; have HR9 := Lib.hid hr9; have HK9 := Lib.hid (HK8.out.trans hk9); have HZ9 := Lib.hid (HZ8.out.kp hk9 hneZ); have HB9 := Lib.hid (HB8.out.kp hk9 hneP); have HO9 := Lib.hid (hk9.nd2 (by simp [HX.out]) HO8.out); have HE9 := Lib.hid (HE8.out.keep hk9); clear hk9 hr9; have x0 := HB9.out.c0; have x1 := HB9.out.c1; have x2 := HB9.out.c2; have x3 := HB9.out.c3; have x4 := HB9.out.c4)
              | (go_at_call 119; (with_reducible refine (HRP2.out _ HB9.out.lt HR9.out HE9.out HO9.out).mono ?_); rintro e w' ⟨b, x, rfl, hl1, hl2, hl3, hl4⟩))
            exact ⟨rfl, Left.after HK9.out ⟨b, x, rfl, hl1, hl2, hl3, hl4⟩⟩
          · have hre := Lib.hid (show postL NP (4000 - (i + 1)) q v = RES by
              rw [← HRE.out, zsub hlt, postL_rep, hrp, show 4000 - (i + 1) = 3999 - i from by omega])
            obtain ⟨qs, hqs⟩ := repR_suf hrp
            have hfv := Lib.hid (hfu.out.suf hqs)
            have HRP2 : Hid (∀ w1 : World, w2.heap.size < w1.heap.size → RS w1 R s (pos s uc) d → Er w1 R → Nd.ok w1 (w.heap.size :: w2.heap.size :: X) ⟨k, l, A, c, mn, mx, kids⟩ → Calls Tryz.prog 119 #[.pointer (some ⟨R, 0, none⟩), .agg #[.int .i64 k, .string l, .slice A kids.len c, .int .i64 mn, .int .i64 mx]] w1 fun e w' => ∃ a : Nd, e = .returned a.v ∧ a.fo .nil = q ∧ a.ok w' (w.heap.size :: w2.heap.size :: X) ∧ Kp [R] w1 w' ∧ RS w' R s (pos s v) d) := fun w1 h0 h1 h2 h3 => by
              have := HRP.out w1 h0 h1 h2 h3
              rwa [rdp_some (r := repR NP (Nd.fo ⟨k, l, A, c, mn, mx, kids⟩ .nil) uc) hrp] at this
            clear hrp HRP hqs ha hb hc hd
            go_wp2_with (first
              | (go_at_call 117; (with_reducible refine (HIa.out _ HR5.out).mono ?_); rintro e w6 ⟨rfl, hk6, hr6⟩; have HR6 := Lib.hid hr6; have HK6 := Lib.hid (HK5.out.trans hk6); have HZ6 := Lib.hid (HZ5.out.kp hk6 hneZ); have HB6 := Lib.hid (HB5.out.kp hk6 hneP); have HO6 := Lib.hid (hk6.nd2 (by simp [HX.out]) HO5.out); have HE6 := Lib.hid (HE5.out.keep hk6); clear hk6 hr6)
              | (go_at_call 117; (with_reducible refine (HIb.out _ HR6.out).mono ?_); rintro e w7 ⟨rfl, hk7, hr7⟩; have HR7 := Lib.hid hr7; have HK7 := Lib.hid (HK6.out.trans hk7); have HZ7 := Lib.hid (HZ6.out.kp hk7 hneZ); have HB7 := Lib.hid (HB6.out.kp hk7 hneP); have HO7 := Lib.hid (hk7.nd2 (by simp [HX.out]) HO6.out); have HE7 := Lib.hid (HE6.out.keep hk7); clear hk7 hr7)
              | (go_at_call 117; (with_reducible refine (HIc.out _ HR7.out).mono ?_); rintro e w8 ⟨rfl, hk8, hr8⟩; have HR8 := Lib.hid hr8; have HK8 := Lib.hid (HK7.out.trans hk8); have HZ8 := Lib.hid (HZ7.out.kp hk8 hneZ); have HB8 := Lib.hid (HB7.out.kp hk8 hneP); have HO8 := Lib.hid (hk8.nd2 (by simp [HX.out]) HO7.out); have HE8 := Lib.hid (HE7.out.keep hk8); clear hk8 hr8)
              | (go_at_call 117; (with_reducible refine (HId.out _ HR8.out).mono ?_); rintro e w9 ⟨rfl, hk9, hr9⟩; have HR9 := Lib.hid hr9; have HK9 := Lib.hid (HK8.out.trans hk9); have HZ9 := Lib.hid (HZ8.out.kp hk9 hneZ); have HB9 := Lib.hid (HB8.out.kp hk9 hneP); have HO9 := Lib.hid (hk9.nd2 (by simp [HX.out]) HO8.out); have HE9 := Lib.hid (HE8.out.keep hk9); clear hk9 hr9; have x0 := HB9.out.c0; have x1 := HB9.out.c1; have x2 := HB9.out.c2; have x3 := HB9.out.c3; have x4 := HB9.out.c4)
              | (go_at_call 119; (with_reducible refine (HRP2.out _ HB9.out.lt HR9.out HE9.out HO9.out).mono ?_); rintro e w10 ⟨⟨k1, l1, A1, c1, mn1, mx1, kids1⟩, rfl, hq, hok, hk10, hr10⟩; clear x0 x1 x2 x3 x4; have HQ := Lib.hid hq; have HO10 := Lib.hid hok; have HR10 := Lib.hid hr10; have HK10 := Lib.hid (HK9.out.trans hk10); have HZ10 := Lib.hid (HZ9.out.kp hk10 hneZ); have HB10 := Lib.hid (HB9.out.kp hk10 hneP); have p0 := HB10.out.c0; have o0 := HB10.out.f0; have p1 := HB10.out.c1; have o1 := HB10.out.f1; have p2 := HB10.out.c2; have o2 := HB10.out.f2; have p3 := HB10.out.c3; have o3 := HB10.out.f3; have p4 := HB10.out.c4; have o4 := HB10.out.f4; clear hq hok hk10 hr10))
            have hk9 := HK10.out.w5 (b := w2.heap.size) (v0 := .int .i64 k1) (v1 := .string l1) (v2 := .slice A1 kids1.len c1) (v3 := .int .i64 mn1) (v4 := .int .i64 mx1) (Or.inr (by omega))
            exact ⟨⟨i + 1, k1, l1, A1, c1, mn1, mx1, kids1, v, by go_num, by omega, hfv, HR10.out.w5 (by omega), hk9, HER.out _ hk9, HZ10.out.far5 (by omega), HB10.out.w5, HO10.out.w5 (by simp), by rw [show Fo.cons k1 l1 kids1 mn1 mx1 .nil = q from HQ.out]; exact hre⟩, by simp [RowKit.intOf]; omega⟩

        rw [ha] at HIa
        rw [hb] at HIb
        rw [hc] at HIc
        rw [hd] at HId
        simp only [Bool.false_eq_true, if_false] at HIa HIb HIc HId
        have hre := Lib.hid (show RES = some (.cons k l kids mn mx .nil, tc) by rw [← HRE.out, postL_none ha hb hc hd])
        rw [rdp_some hre.out]
        clear ha hb hc hd
        go_wp2_with (first
          | (go_at_call 117; (with_reducible refine (HIa.out _ HR5.out).mono ?_); rintro e w6 ⟨rfl, hk6, hr6⟩; have HR6 := Lib.hid hr6; have HK6 := Lib.hid (HK5.out.trans hk6); have HZ6 := Lib.hid (HZ5.out.kp hk6 hneZ); have HB6 := Lib.hid (HB5.out.kp hk6 hneP); have HO6 := Lib.hid (hk6.nd2 (by simp [HX.out]) HO5.out); have HE6 := Lib.hid (HE5.out.keep hk6); clear hk6 hr6)
          | (go_at_call 117; (with_reducible refine (HIb.out _ HR6.out).mono ?_); rintro e w7 ⟨rfl, hk7, hr7⟩; have HR7 := Lib.hid hr7; have HK7 := Lib.hid (HK6.out.trans hk7); have HZ7 := Lib.hid (HZ6.out.kp hk7 hneZ); have HB7 := Lib.hid (HB6.out.kp hk7 hneP); have HO7 := Lib.hid (hk7.nd2 (by simp [HX.out]) HO6.out); have HE7 := Lib.hid (HE6.out.keep hk7); clear hk7 hr7)
          | (go_at_call 117; (with_reducible refine (HIc.out _ HR7.out).mono ?_); rintro e w8 ⟨rfl, hk8, hr8⟩; have HR8 := Lib.hid hr8; have HK8 := Lib.hid (HK7.out.trans hk8); have HZ8 := Lib.hid (HZ7.out.kp hk8 hneZ); have HB8 := Lib.hid (HB7.out.kp hk8 hneP); have HO8 := Lib.hid (hk8.nd2 (by simp [HX.out]) HO7.out); have HE8 := Lib.hid (HE7.out.keep hk8); clear hk8 hr8)
          | (go_at_call 117; (with_reducible refine (HId.out _ HR8.out).mono ?_); rintro e w9 ⟨rfl, hk9, hr9⟩; have HR9 := Lib.hid hr9; have HK9 := Lib.hid (HK8.out.trans hk9); have HZ9 := Lib.hid (HZ8.out.kp hk9 hneZ); have HB9 := Lib.hid (HB8.out.kp hk9 hneP); have HO9 := Lib.hid (hk9.nd2 (by simp [HX.out]) HO8.out); have HE9 := Lib.hid (HE8.out.keep hk9); clear hk9 hr9; have x0 := HB9.out.c0; have z0 := HZ9.out.c0; have y0 := HZ9.out.f0; have x1 := HB9.out.c1; have z1 := HZ9.out.c1; have y1 := HZ9.out.f1; have x2 := HB9.out.c2; have z2 := HZ9.out.c2; have y2 := HZ9.out.f2; have x3 := HB9.out.c3; have z3 := HZ9.out.c3; have y3 := HZ9.out.f3; have x4 := HB9.out.c4; have z4 := HZ9.out.c4; have y4 := HZ9.out.f4))
        exact bodyPost_ret (v := .agg #[.int .i64 k, .string l, .slice A kids.len c, .int .i64 mn, .int .i64 mx]) (by simp [results, Tryz.results109, go_sem, z0, z1, z2, z3, z4]) rfl ⟨⟨k, l, A, c, mn, mx, kids⟩, rfl, rfl, (HO9.out.w5 (b := w.heap.size) (by simp)).less (by intro y hy; simp [hy]), HK9.out.w5 (Or.inr (Nat.le_refl _)), HR9.out.w5 (by omega)⟩
      · have hi4 : i = 4000 := by omega
        subst hi4
        have tl : decide ((4000 : Int) < 4000) = false := by decide
        have hre := Lib.hid (show RES = some (.cons k l kids mn mx .nil, tc) from HRE.out.symm)
        have x0 := HB5.out.c0
        have z0 := HZ5.out.c0
        have y0 := HZ5.out.f0
        have x1 := HB5.out.c1
        have z1 := HZ5.out.c1
        have y1 := HZ5.out.f1
        have x2 := HB5.out.c2
        have z2 := HZ5.out.c2
        have y2 := HZ5.out.f2
        have x3 := HB5.out.c3
        have z3 := HZ5.out.c3
        have y3 := HZ5.out.f3
        have x4 := HB5.out.c4
        have z4 := HZ5.out.c4
        have y4 := HZ5.out.f4
        go_wp2_with fail
        exact bodyPost_ret (v := .agg #[.int .i64 k, .string l, .slice A kids.len c, .int .i64 mn, .int .i64 mx]) (by simp [results, Tryz.results109, go_sem, z0, z1, z2, z3, z4]) rfl (by rw [rdp_some hre.out]; exact ⟨⟨k, l, A, c, mn, mx, kids⟩, rfl, rfl, (HO5.out.w5 (b := w.heap.size) (by simp)).less (by intro y hy; simp [hy]), HK5.out.w5 (Or.inr (Nat.le_refl _)), HR5.out.w5 (by omega)⟩)
end Go.Proofs.YtpaehicfndkliaaGreatDoor.Pa
