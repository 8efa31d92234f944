/- What the document fixes: awake. Conditions: the table of powers is laid. -/
import Derived.Test.YtdpheomokeikbaaDoorWz
namespace Go.Proofs.YtdpheomokeikbaaDoor
open Go.RowKit Go.NT Go.Lib

theorem NV.drew {w : World} {A : Option Addr} {n c : Nat} {xs : List Int} (h : NV w A n c xs) : NV w.drew A n c xs := h.below ((Below.refl _ _).drew)
theorem Tab.drew {w : World} (h : Tab w) : Tab w.drew := h
theorem Tab.alloc {w : World} (h : Tab w) (o : Obj) : Tab (w.alloc o) := h.below (below_al (Below.refl _ _) o)
theorem t64 : decI 18446744073709551616 = [49, 56, 52, 52, 54, 55, 52, 52, 48, 55, 51, 55, 48, 57, 53, 53, 49, 54, 49, 54] := by
  unfold decI
  rw [show (18446744073709551616 : Int).toNat = 18446744073709551616 from rfl, decDigits_eq, nDigits_unique 19 18446744073709551616 (by decide) (by decide)]
  rfl
theorem t0 : decI 0 = [48] := by
  unfold decI
  rw [show (0 : Int).toNat = 0 from rfl, decDigits_one (by omega)]
  rfl
theorem text_is (b : Bool) (A : Option Addr) (n c : Nat) (xs : List Int) (w : World) (hx : NV w A n c xs) (hn : n ≤ 1099511627776) (ht : Tab w) {m : Option Int} (hm : Hid (mean b xs = m)) {S : ByteArray} (hS : Hid (strV (textM m) = .string S)) :
    Calls Tryd.prog 26 #[.agg #[.bool b, .slice A n c]] w fun e w' => e = .returned (.string S) ∧ Below w.heap.size w w' := by
  rw [← hS.out, ← hm.out]
  exact text_any b A n c xs w hx hn ht
theorem mean_ofD (x : Int) : mean false (ofD x) = some x := by show some (val (ofD x)) = _; rw [val_ofD]

set_option maxRecDepth 100000 in
set_option maxHeartbeats 2000000 in
theorem awake_any (w : World) (ht : Tab w) : Calls Tryd.prog 11 #[] w fun e w' => e = .returned (.bool true) ∧ Below w.heap.size w w' := by
  have hS1 : Hid (strV (textM (some (18446744073709551616 : Int))) = .string ⟨#[49, 56, 52, 52, 54, 55, 52, 52, 48, 55, 51, 55, 48, 57, 53, 53, 49, 54, 49, 54]⟩) := Lib.hid (by show strV (decI _) = _; rw [t64]; rfl)
  have hS2 : Hid (strV (textM (some (0 : Int))) = .string ⟨#[48]⟩) := Lib.hid (by show strV (decI _) = _; rw [t0]; rfl)
  go_enter Tryd.func11, Tryd.ntmps11
  go_wp2_with (go_at_call 15; (with_reducible refine (of_any 4294967296 w (by omega) (by omega)).mono ?_); rintro e w1 ⟨A, n, c, rfl, hv, hb1⟩)
  have hvW := hv.alloc (Obj.cells #[.bool false, .slice A n c] 24)
  have hn2 : n ≤ 2 := by rw [← hv.len]; exact ofD_len _
  have htW := (ht.below hb1).alloc (Obj.cells #[.bool false, .slice A n c] 24)
  have c0 : (w1.alloc (Obj.cells #[.bool false, .slice A n c] 24)).cell? ⟨w1.heap.size, 0, none⟩ = some (.bool false) := by go_simp
  have c1 : (w1.alloc (Obj.cells #[.bool false, .slice A n c] 24)).cell? ⟨w1.heap.size, 1, none⟩ = some (.slice A n c) := by go_simp
  have hbW : Below w.heap.size w (w1.alloc (Obj.cells #[.bool false, .slice A n c] 24)) := below_al hb1 _
  have hlt : w1.heap.size < (w1.alloc (Obj.cells #[.bool false, .slice A n c] 24)).heap.size := by simp
  generalize (w1.alloc (Obj.cells #[.bool false, .slice A n c] 24)) = W at *
  have HC0 := Lib.hid c0
  have HC1 := Lib.hid c1
  have hmx : Hid (mulM (mean false (ofD 4294967296)) (mean false (ofD 4294967296)) = some 18446744073709551616) := Lib.hid (by rw [mean_ofD]; rfl)
  have hmy : Hid (mulM (mean true []) (mean false (ofD 0)) = some 0) := Lib.hid (by rw [mean_ofD]; rfl)
  generalize ofD 4294967296 = xs at *
  go_region_law (first
    | (go_simp; go_at_call 14; (with_reducible refine (mul_any false false A A n n c c 8 xs xs _ (by (repeat first | assumption | apply NV.drew)) (by (repeat first | assumption | apply NV.drew)) (by omega) (by omega) (by omega)).mono ?_); rintro e w2 ⟨b2, A2, n2, c2, r2, rfl, hv2, hm2, hr2, hi2, hN2, hb2⟩; have hB2 : Below W.heap.size W w2 := below_step (by (repeat first | assumption | exact Below.refl _ _ | apply below_dr | apply below_al)) hb2 (Below.size (B := W.heap.size) (w := W) (by (repeat first | assumption | exact Below.refl _ _ | apply below_dr | apply below_al))); have hvx2 := hvW.below hB2; have ht2 := htW.below hB2; have hmm2 := Lib.hid (hm2.out.trans hmx.out); have hnn2 := hN2.out; have c02 := (hB2.cell (p := ⟨w1.heap.size, 0, none⟩) hlt).trans HC0.out; have c12 := (hB2.cell (p := ⟨w1.heap.size, 1, none⟩) hlt).trans HC1.out)
    | (go_simp; go_at_call 26; (with_reducible refine (text_is b2 A2 n2 c2 r2 _ (by (repeat first | assumption | apply NV.drew)) (by omega) (by (repeat first | assumption | apply Tab.drew)) hmm2 hS1).mono ?_); rintro e w3 ⟨rfl, hb3⟩; have hB3 : Below W.heap.size W w3 := below_step (by (repeat first | assumption | exact Below.refl _ _ | apply below_dr | apply below_al)) hb3 (Below.size (B := W.heap.size) (w := W) (by (repeat first | assumption | exact Below.refl _ _ | apply below_dr | apply below_al))); have ht3 := htW.below hB3; have c03 := (hB3.cell (p := ⟨w1.heap.size, 0, none⟩) hlt).trans HC0.out; have c13 := (hB3.cell (p := ⟨w1.heap.size, 1, none⟩) hlt).trans HC1.out)
    | (go_simp; go_at_call 17; (with_reducible refine (inf_any _).mono ?_); rintro e w4 ⟨rfl, hb4⟩; have hB4 : Below W.heap.size W w4 := below_step (by (repeat first | assumption | exact Below.refl _ _ | apply below_dr | apply below_al)) hb4 (Below.size (B := W.heap.size) (w := W) (by (repeat first | assumption | exact Below.refl _ _ | apply below_dr | apply below_al))); have ht4 := htW.below hB4; have hvx4 := hvW.below hB4; have c04 := (hB4.cell (p := ⟨w1.heap.size, 0, none⟩) hlt).trans HC0.out; have c14 := (hB4.cell (p := ⟨w1.heap.size, 1, none⟩) hlt).trans HC1.out)
    | (go_simp; go_at_call 15; (with_reducible refine (of_any 0 _ (by omega) (by omega)).mono ?_); rintro e w5 ⟨A5, n5, c5, rfl, hv5, hb5⟩; have hB5 : Below W.heap.size W w5 := below_step (by (repeat first | assumption | exact Below.refl _ _ | apply below_dr | apply below_al)) hb5 (Below.size (B := W.heap.size) (w := W) (by (repeat first | assumption | exact Below.refl _ _ | apply below_dr | apply below_al))); have ht5 := htW.below hB5; have hvx5 := hvW.below hB5; have c05 := (hB5.cell (p := ⟨w1.heap.size, 0, none⟩) hlt).trans HC0.out; have c15 := (hB5.cell (p := ⟨w1.heap.size, 1, none⟩) hlt).trans HC1.out; have hn5 : n5 ≤ 2 := (by rw [← hv5.len]; exact ofD_len _))
    | (go_simp; go_at_call 14; (with_reducible refine (mul_any true false none A5 0 n5 0 c5 8 [] (ofD 0) _ (NV.nil _) (by (repeat first | assumption | apply NV.drew)) (by omega) (by omega) (by omega)).mono ?_); rintro e w6 ⟨b6, A6, n6, c6, r6, rfl, hv6, hm6, hr6, hi6, hN6, hb6⟩; have hB6 : Below W.heap.size W w6 := below_step (by (repeat first | assumption | exact Below.refl _ _ | apply below_dr | apply below_al)) hb6 (Below.size (B := W.heap.size) (w := W) (by (repeat first | assumption | exact Below.refl _ _ | apply below_dr | apply below_al))); have ht6 := htW.below hB6; have hvx6 := hvW.below hB6; have c06 := (hB6.cell (p := ⟨w1.heap.size, 0, none⟩) hlt).trans HC0.out; have c16 := (hB6.cell (p := ⟨w1.heap.size, 1, none⟩) hlt).trans HC1.out; have hmm6 := Lib.hid (hm6.out.trans hmy.out); have hnn6 := hN6.out)
    | (go_simp; go_at_call 26; (with_reducible refine (text_is b6 A6 n6 c6 r6 _ (by (repeat first | assumption | apply NV.drew)) (by omega) (by (repeat first | assumption | apply Tab.drew)) hmm6 hS2).mono ?_); rintro e w7 ⟨rfl, hb7⟩; have hB7 : Below W.heap.size W w7 := below_step (by (repeat first | assumption | exact Below.refl _ _ | apply below_dr | apply below_al)) hb7 (Below.size (B := W.heap.size) (w := W) (by (repeat first | assumption | exact Below.refl _ _ | apply below_dr | apply below_al))); have ht7 := htW.below hB7; have hvx7 := hvW.below hB7; have c07 := (hB7.cell (p := ⟨w1.heap.size, 0, none⟩) hlt).trans HC0.out; have c17 := (hB7.cell (p := ⟨w1.heap.size, 1, none⟩) hlt).trans HC1.out)
    | (go_simp; go_at_call 12; (with_reducible refine (compare_any true false none A 0 n 0 c [] xs _ (NV.nil _) (by (repeat first | assumption | apply NV.drew))).mono ?_); rw [show cmpM (mean true []) (mean false xs) = 1 from rfl]; rintro e w8 ⟨rfl, hb8⟩; have hB8 : Below W.heap.size W w8 := below_step (by (repeat first | assumption | exact Below.refl _ _ | apply below_dr | apply below_al)) hb8 (Below.size (B := W.heap.size) (w := W) (by (repeat first | assumption | exact Below.refl _ _ | apply below_dr | apply below_al))); have ht8 := htW.below hB8; have hvx8 := hvW.below hB8; have c08 := (hB8.cell (p := ⟨w1.heap.size, 0, none⟩) hlt).trans HC0.out; have c18 := (hB8.cell (p := ⟨w1.heap.size, 1, none⟩) hlt).trans HC1.out))
  all_goals
    go_wp2_with fail
    go_ret
    exact ⟨rfl, below_step hbW (by (repeat first | assumption | exact Below.refl _ _ | apply below_dr | apply below_al)) hbW.size⟩
end Go.Proofs.YtdpheomokeikbaaDoor
