/- The walk of nat.Parse. Conditions: the table of powers is laid. -/
import Derived.Test.YtdkmmnehlmaebaaGreatDoorNRe
import Derived.Test.YtdkmmnehlmaebaaGreatDoorNDp
namespace Go.Proofs.YtdkmmnehlmaebaaGreatDoor.Na
open Go.RowKit Go.NT Go.Lib

/-- What stands throughout: below the caller's heap nothing has turned; the table is laid. -/
def G (w0 w : World) : Prop := Below w0.heap.size w0 w ∧ Tab w
theorem G.go {w0 w w' : World} (h : G w0 w) (hb : Below w.heap.size w w') : G w0 w' := ⟨below_step h.1 hb h.1.size, h.2.below hb⟩
theorem G.drew {w0 w : World} (h : G w0 w) : G w0 w.drew := ⟨below_dr h.1, h.2.below (below_dr (Below.refl _ _))⟩
theorem G.below {w0 w : World} (h : G w0 w) : Below w0.heap.size w0 w := h.1
theorem G.tab {w0 w : World} (h : G w0 w) : Tab w := h.2
theorem text_is (b : Bool) (A : Option Addr) (n c : Nat) (xs : List Int) (w : World) (hx : NV w A n c xs) (hn : n ≤ 1099511627776) (ht : Tab w) {m : Option Int} (hm : Hid (mean b xs = m)) {S : ByteArray} (hS : Hid (strV (textM m) = .string S)) :
    Calls Tryz.prog 59 #[.agg #[.bool b, .slice A n c]] w fun e w' => e = .returned (.string S) ∧ Below w.heap.size w w' := by
  rw [← hS.out, ← hm.out]
  exact text_any b A n c xs w hx hn ht
theorem Res.drew {w : World} {g : Nat} {t : Bool} {v : Value} (h : Res w g t v) : Res w.drew g t v := h
/-- A number stored into its variable: its digits lie elsewhere, for a flag is no digit. -/
theorem NV.store {w : World} {A : Option Addr} {m c : Nat} {rs : List Int} (h : NV w A m c rs) {p : Addr} {v : Value} (hp : w.cell? p = some v) (hv : ∀ x, v ≠ .int .u32 x) (u : Value) : NV (w.setCell p u) A m c rs := by
  refine ⟨⟨h.1.1, fun h0 => ?_⟩, h.2⟩
  obtain ⟨ad, e, hb, hc⟩ := h.1.2 h0
  refine ⟨ad, e, by simpa using hb, fun j y hy => ?_⟩
  rw [World.cell?_setCell_other w _ _ u (fun e2 => ?_)]
  · exact hc j y hy
  · have h1 := hc j y hy
    rw [List.getElem?_map] at hy
    cases hx : rs[j]? with
    | none => rw [hx] at hy; cases hy
    | some x =>
      rw [hx] at hy
      obtain rfl : Value.int .u32 x = y := Option.some.inj hy
      rw [← e2, hp] at h1
      exact hv x (Option.some.inj h1)
theorem Res.far {w : World} {g g' k : Nat} {t : Bool} {v : Value} (h : Res w g t v) (hg : g ≠ g') (u : Value) : Res (w.setCell ⟨g', k, none⟩ u) g t v := by
  refine ⟨?_, ?_, ?_, ?_, ?_⟩
  · rw [World.cell?_setCell_other w _ _ u (fun e => hg (by injection e with e; exact e.symm))]; exact h.1
  · rw [World.cell?_setCell_other w _ _ u (fun e => hg (by injection e with e; exact e.symm))]; exact h.2.1
  · have := h.2.2.1; simpa using this
  · have := h.2.2.2.1; simpa using this
  · simpa using h.2.2.2.2
theorem Res.put {w : World} {g : Nat} {t : Bool} {v : Value} (h : Res w g t v) (t' : Bool) (v' : Value) : Res ((w.setCell ⟨g, 0, none⟩ (.bool t')).setCell ⟨g, 1, none⟩ v') g t' v' := by
  obtain ⟨h0, h1, h2, h3, h4⟩ := h
  refine ⟨by go_simp, by go_simp, by go_simp, by go_simp, by simpa using h4⟩
theorem NV.put {w : World} {A B : Option Addr} {m c g n' c' : Nat} {rs : List Int} {t : Bool} (h : NV w A m c rs) (hr : Res w g t (.slice B n' c')) (u v : Value) : NV ((w.setCell ⟨g, 0, none⟩ u).setCell ⟨g, 1, none⟩ v) A m c rs := by
  have h1 := h.store hr.1 (fun _ e => by cases e) u
  refine h1.store (v := .slice B n' c') ?_ (fun _ e => by cases e) v
  rw [World.cell?_setCell_other w _ _ u (fun e => by injection e with _ e; cases e)]
  exact hr.2.1

set_option maxRecDepth 100000 in
set_option maxHeartbeats 1000000 in
theorem parse_big (S : ByteArray) (w : World) (h : 700 < S.size) (h2 : S.size ≤ 9223372036854775807) :
    Calls Tryz.prog 62 #[.string S] w fun e w' => e = .returned (.tuple #[.agg #[.bool false, .slice none 0 0], .int .i64 5]) ∧ Below w.heap.size w w' := by
  have h3 : (700 : Int) < (S.size : Int) := by omega
  go_enter Tryz.func62, Tryz.ntmps62
  go_wp2_with fail
  exact bodyPost_ret (v := .tuple #[.agg #[.bool false, .slice none 0 0], .int .i64 5]) (by simp [results, Tryz.results62, go_sem]) rfl ⟨rfl, below_al (Below.refl _ _) _⟩

/-- The text of digits that are a number's own is read as it; other digits are refused. -/
def PN (w w' : World) (e : Ending) (t : Bool) (v : Int) : Prop :=
  if t then ∃ (b : Bool) (A : Option Addr) (n c : Nat) (rs : List Int), e = .returned (.tuple #[.agg #[.bool b, .slice A n c], .int .i64 0]) ∧ NV w' A n c rs ∧ Hid (mean b rs = some v) ∧ Hid (Norm rs) ∧ Hid (b = true → rs = []) ∧ n ≤ 2100 ∧ Below w.heap.size w w'
  else e = .returned (.tuple #[.agg #[.bool false, .slice none 0 0], .int .i64 16]) ∧ Below w.heap.size w w'
theorem wrap_dig (d : Int) (h : ¬ d < 48) (h2 : ¬ 57 < d) : IntKind.u64.wrap (IntKind.u8.wrap (d - 48)) = d - 48 := by
  rw [IntWalk.u8_in _ (by omega), IntWalk.u64_in _ (by omega)]
theorem S_dig (S : ByteArray) {k : Nat} (h : k < S.size) : dval (S.data.toList.take (k + 1)) = dval (S.data.toList.take k) * 10 + (((S[k]'h).toNat : Int) - 48) := by
  rw [dval_take S.data.toList k (by simpa using h)]
  rfl
theorem S_mem (S : ByteArray) {k : Nat} (h : k < S.size) : (S[k]'h) ∈ S.data.toList := by
  have : S.data.toList[k]'(by simpa using h) = S[k]'h := rfl
  rw [← this]
  exact List.getElem_mem _

set_option maxRecDepth 100000 in
set_option maxHeartbeats 4000000 in
theorem parse_dig (S : ByteArray) (w : World) (ht : Tab w) (h : ¬ 700 < S.size) (hi : (S.toList == [105, 110, 102]) = false) (hd : ∀ d ∈ S.data.toList, dig d) (t : Bool) (T : ByteArray) (hT : Hid (T = bs (decI (dval S.data.toList)))) (hTS : (T.toList == S.toList) = t) :
    Calls Tryz.prog 62 #[.string S] w fun e w' => PN w w' e t (dval S.data.toList) := by
  have h3 : ¬ (700 : Int) < (S.size : Int) := by omega
  have HD := Lib.hid hd
  have hsz : S.data.toList.length = S.size := by simp
  have HZ := Lib.hid hsz
  clear hd hsz
  go_enter Tryz.func62, Tryz.ntmps62
  go_wp2_with fail
  have rR0 : Res ((w.alloc (Obj.cells #[.bool false, .slice none 0 0] 24)).alloc (Obj.cells #[.bool false, .slice none 0 0] 24)) w.heap.size false (.slice none 0 0) := ⟨by go_simp, by go_simp, by go_simp, by go_simp, by first | (simp; done) | (simp; omega)⟩
  have rO0 : Res ((w.alloc (Obj.cells #[.bool false, .slice none 0 0] 24)).alloc (Obj.cells #[.bool false, .slice none 0 0] 24)) (w.heap.size + 1) false (.slice none 0 0) := ⟨by go_simp, by go_simp, by go_simp, by go_simp, by first | (simp; done) | (simp; omega)⟩
  have hG0 : G w ((w.alloc (Obj.cells #[.bool false, .slice none 0 0] 24)).alloc (Obj.cells #[.bool false, .slice none 0 0] 24)) := ⟨below_al (below_al (Below.refl _ _) _) _, ht.below (below_al (below_al (Below.refl _ _) _) _)⟩
  go_loopw [16, 5] (fun v _ wr => ∃ (k : Nat) (b : Bool) (A : Option Addr) (n c : Nat) (rs : List Int), v = .int .i64 k ∧ k ≤ S.size ∧ Res wr w.heap.size false (.slice none 0 0) ∧ Res wr (w.heap.size + 1) b (.slice A n c) ∧ NV wr A n c rs ∧ Hid (mean b rs = some (dval (S.data.toList.take k))) ∧ Hid (Norm rs) ∧ Hid (b = true → rs = []) ∧ n ≤ 3 * k ∧ G w wr) (fun v _ _ => S.size - (RowKit.intOf v).toNat)
  case atStart => exact ⟨0, false, none, 0, 0, [], rfl, Nat.zero_le _, rR0, rO0, NV.nil _, Lib.hid rfl, Lib.hid Norm.nil, Lib.hid (fun h => by cases h), Nat.zero_le _, hG0⟩
  case round =>
    obtain ⟨k, b, A, n, c, rs, rfl, hk, rR, rO, hvO, hm, hr, hbi, hn, hG⟩ := hrel
    clear rR0 rO0 hG0
    by_cases hlt : k < S.size
    · have hlt1 : (k : Int) < S.size := by omega
      have hdg := HD.out _ (S_mem S hlt)
      have hd1 : ¬ ((S[k]'hlt).toNat : Int) < 48 := by have := hdg.1; omega
      have hd2 : ¬ (57 : Int) < ((S[k]'hlt).toNat : Int) := by have := hdg.2; omega
      have hwd := wrap_dig _ hd1 hd2
      have hst := Lib.hid (S_dig S hlt)
      clear hdg
      have p0 := rO.1
      have p1 := rO.2.1
      have p2 := rO.2.2.1
      have p3 := rO.2.2.2.1
      go_wp2_with fail
      go_region_law (first
        | (go_simp; go_at_call 67; (with_reducible refine (of_nr 10 _ (by omega) (by omega)).mono ?_); rintro e w1 ⟨b1, A1, n1, c1, r1, rfl, hv1, hm1, hr1, hi1, hN1, hb1⟩; have hN1 := hN1.out; (first | (have hG := G.go hG hb1) | (have hG := G.go (G.drew hG) hb1)); (first | (have hvO := NV.below hvO hb1) | (have hvO := NV.below (NV.drew hvO) hb1)); (first | (have rO := Res.step rO hb1) | (have rO := Res.step (Res.drew rO) hb1)); (first | (have rR := Res.step rR hb1) | (have rR := Res.step (Res.drew rR) hb1)); have p0 := rO.1; have p1 := rO.2.1; have p2 := rO.2.2.1; have p3 := rO.2.2.2.1)
        | (go_simp; go_at_call 42; (with_reducible refine (mul_any b b1 A A1 n n1 c c1 (n + 2) rs r1 _ (by first | exact hvO | exact hvO.drew) (by first | exact hv1 | exact hv1.drew) (by omega) (by omega) (by omega)).mono ?_); rintro e w2 ⟨b2, A2, n2, c2, r2, rfl, hv2, hm2, hr2, hi2, hN2, hb2⟩; have hN2 := hN2.out; (first | (have hG := G.go hG hb2) | (have hG := G.go (G.drew hG) hb2)); (first | (have hvO := NV.below hvO hb2) | (have hvO := NV.below (NV.drew hvO) hb2)); (first | (have rO := Res.step rO hb2) | (have rO := Res.step (Res.drew rO) hb2)); (first | (have rR := Res.step rR hb2) | (have rR := Res.step (Res.drew rR) hb2)); have p0 := rO.1; have p1 := rO.2.1; have p2 := rO.2.2.1; have p3 := rO.2.2.2.1)
        | (go_simp; go_at_call 67; (with_reducible refine (of_nr (((S[k]'hlt).toNat : Int) - 48) _ (by omega) (by omega)).mono ?_); rintro e w3 ⟨b3, A3, n3, c3, r3, rfl, hv3, hm3, hr3, hi3, hN3, hb3⟩; have hN3 := hN3.out; (first | (have hG := G.go hG hb3) | (have hG := G.go (G.drew hG) hb3)); (first | (have hvO := NV.below hvO hb3) | (have hvO := NV.below (NV.drew hvO) hb3)); (first | (have rO := Res.step rO hb3) | (have rO := Res.step (Res.drew rO) hb3)); (first | (have rR := Res.step rR hb3) | (have rR := Res.step (Res.drew rR) hb3)); have p0 := rO.1; have p1 := rO.2.1; have p2 := rO.2.2.1; have p3 := rO.2.2.2.1; (first | (have hv2 := NV.below hv2 hb3) | (have hv2 := NV.below (NV.drew hv2) hb3)))
        | (go_simp; go_at_call 38; (with_reducible refine (add_any b2 b3 A2 A3 n2 n3 c2 c3 (n + 3) r2 r3 _ (by first | exact hv2 | exact hv2.drew) (by first | exact hv3 | exact hv3.drew) (by omega) (by omega) (by omega)).mono ?_); rintro e w4 ⟨b4, A4, n4, c4, r4, rfl, hv4, hm4, hr4, hi4, hN4, hb4⟩; have hN4 := hN4.out; (first | (have hG := G.go hG hb4) | (have hG := G.go (G.drew hG) hb4)); (first | (have hvO := NV.below hvO hb4) | (have hvO := NV.below (NV.drew hvO) hb4)); (first | (have rO := Res.step rO hb4) | (have rO := Res.step (Res.drew rO) hb4)); (first | (have rR := Res.step rR hb4) | (have rR := Res.step (Res.drew rR) hb4)); have p0 := rO.1; have p1 := rO.2.1; have p2 := rO.2.2.1; have p3 := rO.2.2.2.1))
      all_goals
        go_wp2_with fail
        have hbw : Below w.heap.size w ((w4.setCell ⟨w.heap.size + 1, 0, none⟩ (Value.bool b4)).setCell ⟨w.heap.size + 1, 1, none⟩ (Value.slice A4 n4 c4)) := (hG.below.setCell (p := ⟨w.heap.size + 1, 0, none⟩) (by show w.heap.size ≤ w.heap.size + 1; omega) _).setCell (p := ⟨w.heap.size + 1, 1, none⟩) (by show w.heap.size ≤ w.heap.size + 1; omega) _
        exact ⟨⟨k + 1, b4, A4, n4, c4, r4, by go_num, by omega, (rR.far (by omega) _).far (by omega) _, rO.put _ _, hv4.put rO _ _, Lib.hid (by rw [hm4.out, hm2.out, hm1.out, hm3.out, hm.out, hst.out]; rfl), hr4, hi4, by omega, ⟨hbw, ht.below hbw⟩⟩, by simp [RowKit.intOf]; omega⟩
    · obtain rfl : k = S.size := by omega
      have hlt1 : ¬ (S.size : Int) < (S.size : Int) := by omega
      have hall : Hid (mean b rs = some (dval S.data.toList)) := Lib.hid (by rw [hm.out, List.take_of_length_le (by rw [HZ.out]; omega)])
      have hS : Hid (strV (textM (some (dval S.data.toList))) = .string T) := Lib.hid (by rw [hT.out]; rfl)
      have p0 := rO.1
      have p1 := rO.2.1
      cases t
      · go_wp2_with (go_at_call 59; (with_reducible refine (text_is b A n c rs _ hvO (by omega) hG.tab hall hS).mono ?_); rintro e w5 ⟨rfl, hb5⟩; have rR5 := rR.step hb5; have rO5 := rO.step hb5; have hG5 := hG.go hb5; have q0 := rR5.1; have q1 := rR5.2.1; have q2 := rR5.2.2.1; have q3 := rR5.2.2.2.1; have q4 := rO5.1; have q5 := rO5.2.1)
        exact bodyPost_ret (v := .tuple #[.agg #[.bool false, .slice none 0 0], .int .i64 16]) (by simp [results, Tryz.results62, go_sem, q0, q1]) rfl ⟨rfl, (hG5.below.setCell (p := ⟨w.heap.size, 0, none⟩) (Nat.le_refl _) _).setCell (p := ⟨w.heap.size, 1, none⟩) (Nat.le_refl _) _⟩
      · go_wp2_with (go_at_call 59; (with_reducible refine (text_is b A n c rs _ hvO (by omega) hG.tab hall hS).mono ?_); rintro e w5 ⟨rfl, hb5⟩; have hv5 := hvO.below hb5; have rR5 := rR.step hb5; have rO5 := rO.step hb5; have hG5 := hG.go hb5; have q0 := rR5.1; have q1 := rR5.2.1; have q2 := rR5.2.2.1; have q3 := rR5.2.2.2.1; have q4 := rO5.1; have q5 := rO5.2.1)
        exact bodyPost_ret (v := .tuple #[.agg #[.bool b, .slice A n c], .int .i64 0]) (by simp [results, Tryz.results62, go_sem, q0, q1]) rfl ⟨b, A, n, c, rs, rfl, hv5.put rR5 _ _, hall, hr, hbi, by omega, (hG5.below.setCell (p := ⟨w.heap.size, 0, none⟩) (Nat.le_refl _) _).setCell (p := ⟨w.heap.size, 1, none⟩) (Nat.le_refl _) _⟩
set_option maxHeartbeats 1000000 in
theorem parse_inf (S : ByteArray) (w : World) (h : ¬ 700 < S.size) (hi : (S.toList == [105, 110, 102]) = true) :
    Calls Tryz.prog 62 #[.string S] w fun e w' => e = .returned (.tuple #[.agg #[.bool true, .slice none 0 0], .int .i64 0]) ∧ Below w.heap.size w w' := by
  have h3 : ¬ (700 : Int) < (S.size : Int) := by omega
  have rR0 : Res (w.alloc (Obj.cells #[.bool false, .slice none 0 0] 24)) w.heap.size false (.slice none 0 0) := ⟨by go_simp, by go_simp, by go_simp, by go_simp, by simp⟩
  go_enter Tryz.func62, Tryz.ntmps62
  go_wp2_with (go_at_call 45; (with_reducible refine (inf_any _).mono ?_); rintro e w1 ⟨rfl, hb1⟩; have hR := rR0.step hb1; have q0 := hR.1; have q1 := hR.2.1; have q2 := hR.2.2.1; have q3 := hR.2.2.2.1)
  exact bodyPost_ret (v := .tuple #[.agg #[.bool true, .slice none 0 0], .int .i64 0]) (by simp [results, Tryz.results62, go_sem, q0, q1]) rfl ⟨rfl, ((below_step (below_al (Below.refl _ _) _) hb1 (by simp)).setCell (p := ⟨w.heap.size, 0, none⟩) (Nat.le_refl _) _).setCell (p := ⟨w.heap.size, 1, none⟩) (Nat.le_refl _) _⟩
end Go.Proofs.YtdkmmnehlmaebaaGreatDoor.Na
