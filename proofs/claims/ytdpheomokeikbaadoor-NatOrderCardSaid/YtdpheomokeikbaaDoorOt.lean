/- The walk of the law NatOrder where the first number is above the second. Conditions: the digits can be read; the table of powers is laid. -/
import Derived.Test.YtdpheomokeikbaaDoorOg
namespace Go.Proofs.YtdpheomokeikbaaDoor
open Go.RowKit Go.NT Go.Lib

set_option linter.unusedSimpArgs false in
set_option maxRecDepth 100000 in
set_option maxHeartbeats 8000000 in
theorem order_gt (w : World) (ht : Tab w) (b1 b2 b3 : Bool) (A1 A2 A3 : Option Addr) (n1 n2 n3 c1 c2 c3 : Nat) (xs ys zs : List Int) (hx : NV w A1 n1 c1 xs) (hy : NV w A2 n2 c2 ys) (hz : NV w A3 n3 c3 zs) (h1 : n1 ≤ 100) (h2 : n2 ≤ 100) (h3 : n3 ≤ 100) (hR : Hid (cmpM (mean b1 xs) (mean b2 ys) = 1)) (hRn : Hid (cmpM (mean b2 ys) (mean b1 xs) = -1)) :
    Calls Tryd.prog 3 #[.agg #[.bool b1, .slice A1 n1 c1], .agg #[.bool b2, .slice A2 n2 c2], .agg #[.bool b3, .slice A3 n3 c3]] w fun e w' => e = .returned (.bool true) ∧ Below w.heap.size w w' := by
  have hs' : Hid (decide (n1 ≤ 100 ∧ n2 ≤ 100 ∧ n3 ≤ 100) = true) := Lib.hid (decide_eq_true ⟨h1, h2, h3⟩)
  have hB : ∀ o1 o2 o3 o4 : Obj, Below w.heap.size w ((((w.alloc o1).alloc o2).alloc o3).alloc o4) := fun o1 o2 o3 o4 => below_al (below_al3 w o1 o2 o3) o4
  have hp1 := Lib.hid (Pos.of_nv b1 hx)
  have hp2 := Lib.hid (Pos.of_nv b2 hy)
  have hp3 := Lib.hid (Pos.of_nv b3 hz)
  have hRs : Hid (cmpM (mean b1 xs) (mean b1 xs) = 0) := Lib.hid (cmpM_self _)
  go_enter Tryd.func3, Tryd.ntmps3
  go_wp2_with (go_at_call 10; (with_reducible refine (small3 _ A1 A2 A3 n1 n2 n3 c1 c2 c3 true hs' _ (by omega) (by omega) (by omega) (by go_simp) (by go_simp) (by go_simp)).mono ?_); rintro e w1 ⟨rfl, rfl⟩)
  have hG : G w ((((w.alloc (Obj.cells #[Value.bool b1, Value.slice A1 n1 c1] 24)).alloc (Obj.cells #[Value.bool b2, Value.slice A2 n2 c2] 24)).alloc (Obj.cells #[Value.bool b3, Value.slice A3 n3 c3] 24)).alloc (Obj.cells #[Value.bool b1, Value.slice A1 n1 c1, Value.bool b2, Value.slice A2 n2 c2, Value.bool b3, Value.slice A3 n3 c3] 24)) := ⟨hB _ _ _ _, ht.below (hB _ _ _ _)⟩
  have k1 : Box ((((w.alloc (Obj.cells #[Value.bool b1, Value.slice A1 n1 c1] 24)).alloc (Obj.cells #[Value.bool b2, Value.slice A2 n2 c2] 24)).alloc (Obj.cells #[Value.bool b3, Value.slice A3 n3 c3] 24)).alloc (Obj.cells #[Value.bool b1, Value.slice A1 n1 c1, Value.bool b2, Value.slice A2 n2 c2, Value.bool b3, Value.slice A3 n3 c3] 24)) w.heap.size b1 A1 n1 c1 xs := ⟨by go_simp, by go_simp, by first | (simp; done) | (simp; omega), hx.below (hB _ _ _ _)⟩
  have k2 : Box ((((w.alloc (Obj.cells #[Value.bool b1, Value.slice A1 n1 c1] 24)).alloc (Obj.cells #[Value.bool b2, Value.slice A2 n2 c2] 24)).alloc (Obj.cells #[Value.bool b3, Value.slice A3 n3 c3] 24)).alloc (Obj.cells #[Value.bool b1, Value.slice A1 n1 c1, Value.bool b2, Value.slice A2 n2 c2, Value.bool b3, Value.slice A3 n3 c3] 24)) (w.heap.size + 1) b2 A2 n2 c2 ys := ⟨by go_simp, by go_simp, by first | (simp; done) | (simp; omega), hy.below (hB _ _ _ _)⟩
  have k3 : Box ((((w.alloc (Obj.cells #[Value.bool b1, Value.slice A1 n1 c1] 24)).alloc (Obj.cells #[Value.bool b2, Value.slice A2 n2 c2] 24)).alloc (Obj.cells #[Value.bool b3, Value.slice A3 n3 c3] 24)).alloc (Obj.cells #[Value.bool b1, Value.slice A1 n1 c1, Value.bool b2, Value.slice A2 n2 c2, Value.bool b3, Value.slice A3 n3 c3] 24)) (w.heap.size + 1 + 1) b3 A3 n3 c3 zs := ⟨by go_simp, by go_simp, by first | (simp; done) | (simp; omega), hz.below (hB _ _ _ _)⟩
  clear hB hs' hx hy hz ht
  generalize ((((w.alloc (Obj.cells #[Value.bool b1, Value.slice A1 n1 c1] 24)).alloc (Obj.cells #[Value.bool b2, Value.slice A2 n2 c2] 24)).alloc (Obj.cells #[Value.bool b3, Value.slice A3 n3 c3] 24)).alloc (Obj.cells #[Value.bool b1, Value.slice A1 n1 c1, Value.bool b2, Value.slice A2 n2 c2, Value.bool b3, Value.slice A3 n3 c3] 24)) = W at *
  (with_reducible refine (compare_is b1 b2 A1 A2 n1 n2 c1 c2 xs ys _ (by first | exact k1.nv | exact k1.drew.nv) (by first | exact k2.nv | exact k2.drew.nv) (k := _) hR).mono ?_); rintro e wz1 ⟨rfl, hbz1⟩; (first | (have hG := G.go hG hbz1) | (have hG := G.go (G.drew hG) hbz1)); (first | (have k1 := Box.go k1 hbz1) | (have k1 := Box.go (Box.drew k1) hbz1)); (first | (have k2 := Box.go k2 hbz1) | (have k2 := Box.go (Box.drew k2) hbz1)); (first | (have k3 := Box.go k3 hbz1) | (have k3 := Box.go (Box.drew k3) hbz1)); have p1 := k1.1; have q1 := k1.2.1; have p2 := k2.1; have q2 := k2.2.1; have p3 := k3.1; have q3 := k3.2.1
  go_wp2_with (first
    | (go_at_call 12; (with_reducible refine (compare_is b2 b1 A2 A1 n2 n1 c2 c1 ys xs _ (by first | exact k2.nv | exact k2.drew.nv) (by first | exact k1.nv | exact k1.drew.nv) (k := _) hRn).mono ?_); rintro e wz2 ⟨rfl, hbz2⟩; (first | (have hG := G.go hG hbz2) | (have hG := G.go (G.drew hG) hbz2)); (first | (have k1 := Box.go k1 hbz2) | (have k1 := Box.go (Box.drew k1) hbz2)); (first | (have k2 := Box.go k2 hbz2) | (have k2 := Box.go (Box.drew k2) hbz2)); (first | (have k3 := Box.go k3 hbz2) | (have k3 := Box.go (Box.drew k3) hbz2)); have p1 := k1.1; have q1 := k1.2.1; have p2 := k2.1; have q2 := k2.2.1; have p3 := k3.1; have q3 := k3.2.1)
    | (go_at_call 12; (with_reducible refine (compare_is b1 b1 A1 A1 n1 n1 c1 c1 xs xs _ (by first | exact k1.nv | exact k1.drew.nv) (by first | exact k1.nv | exact k1.drew.nv) (k := 0) hRs).mono ?_); rintro e wz3 ⟨rfl, hbz3⟩; (first | (have hG := G.go hG hbz3) | (have hG := G.go (G.drew hG) hbz3)); (first | (have k1 := Box.go k1 hbz3) | (have k1 := Box.go (Box.drew k1) hbz3)); (first | (have k2 := Box.go k2 hbz3) | (have k2 := Box.go (Box.drew k2) hbz3)); (first | (have k3 := Box.go k3 hbz3) | (have k3 := Box.go (Box.drew k3) hbz3)); have p1 := k1.1; have q1 := k1.2.1; have p2 := k2.1; have q2 := k2.2.1; have p3 := k3.1; have q3 := k3.2.1))
  refine wp_region_held_drew (S := fun w' => w'.cell? ⟨w.heap.size, 0, none⟩ = some (.bool b1) ∧ w'.cell? ⟨w.heap.size, 1, none⟩ = some (.slice A1 n1 c1) ∧ w'.cell? ⟨(w.heap.size + 1), 0, none⟩ = some (.bool b2) ∧ w'.cell? ⟨(w.heap.size + 1), 1, none⟩ = some (.slice A2 n2 c2) ∧ w'.cell? ⟨(w.heap.size + 1 + 1), 0, none⟩ = some (.bool b3) ∧ w'.cell? ⟨(w.heap.size + 1 + 1), 1, none⟩ = some (.slice A3 n3 c3)) (by kernel_rfl) ⟨p1, q1, p2, q2, p3, q3⟩ (fun hHeld => ?_)
  refine wpAnyH_take (i := 0) (v := (.agg #[.bool b1, .slice A1 n1 c1])) rfl (by kernel_rfl) (by kernel_rfl) (by kernel_rfl) (fun _ _ _ h => h) (Or.inl ⟨by kernel_rfl, by intro w hSw; (try dsimp only at hSw); go_simp⟩) (by assumption) ?_
  try simp only [Act.put, List.getElem_toArray, List.getElem_cons_zero, List.getElem_cons_succ, List.setIfInBounds_toArray, List.set_cons_zero, List.set_cons_succ]
  refine wpAnyH_take (i := 1) (v := (.agg #[.bool b3, .slice A3 n3 c3])) rfl (by kernel_rfl) (by kernel_rfl) (by kernel_rfl) (fun _ _ _ h => h) (Or.inl ⟨by kernel_rfl, by intro w hSw; (try dsimp only at hSw); go_simp⟩) (by assumption) ?_
  try simp only [Act.put, List.getElem_toArray, List.getElem_cons_zero, List.getElem_cons_succ, List.setIfInBounds_toArray, List.set_cons_zero, List.set_cons_succ]
  refine wpAnyH_take (i := 3) (v := (.agg #[.bool b1, .slice A1 n1 c1])) rfl (by kernel_rfl) (by kernel_rfl) (by kernel_rfl) (fun _ _ _ h => h) (Or.inl ⟨by kernel_rfl, by intro w hSw; (try dsimp only at hSw); go_simp⟩) (by assumption) ?_
  try simp only [Act.put, List.getElem_toArray, List.getElem_cons_zero, List.getElem_cons_succ, List.setIfInBounds_toArray, List.set_cons_zero, List.set_cons_succ]
  refine wpAnyH_ready (rs := [2]) (by kernel_rfl) (by simp) ?_
  refine AllReadyH.cons rfl (fun K hK => ?_) AllReadyH.nil
  go_simp
  go_at_call 13
  (with_reducible refine (add_any b1 b3 A1 A3 n1 n3 c1 c3 210 xs zs _ (by first | exact k1.nv | exact k1.drew.nv) (by first | exact k3.nv | exact k3.drew.nv) (by omega) (by omega) (by omega)).mono ?_); rintro e wac ⟨bac, Aac, nac, cac, rac, rfl, hvac, hmac, hrac, hiac, hNac, hbac⟩; have hNac := hNac.out; (first | (have hG := G.go hG hbac) | (have hG := G.go (G.drew hG) hbac)); (first | (have k1 := Box.go k1 hbac) | (have k1 := Box.go (Box.drew k1) hbac)); (first | (have k2 := Box.go k2 hbac) | (have k2 := Box.go (Box.drew k2) hbac)); (first | (have k3 := Box.go k3 hbac) | (have k3 := Box.go (Box.drew k3) hbac)); have p1 := k1.1; have q1 := k1.2.1; have p2 := k2.1; have q2 := k2.2.1; have p3 := k3.1; have q3 := k3.2.1
  go_wp2_with fail
  refine hK.out _ _ ⟨p1, q1, p2, q2, p3, q3⟩ (fun hHeld => ?_)
  clear hK K
  try simp only [Act.put, List.getElem_toArray, List.getElem_cons_zero, List.getElem_cons_succ, List.setIfInBounds_toArray, List.set_cons_zero, List.set_cons_succ]
  refine wpAnyH_ready (rs := [4]) (by kernel_rfl) (by simp) ?_
  refine AllReadyH.cons rfl (fun K hK => ?_) AllReadyH.nil
  go_simp
  go_at_call 12
  (with_reducible refine (compare_ge bac b1 Aac A1 nac n1 cac c1 rac xs _ (by first | exact hvac | exact hvac.drew) (by first | exact k1.nv | exact k1.drew.nv) (Lib.hid (by rw [hmac.out]; exact cmp_add_ge hp3.out))).mono ?_); rintro e wz1 ⟨kz1, rfl, hkz1, hbz1⟩; (first | (have hG := G.go hG hbz1) | (have hG := G.go (G.drew hG) hbz1)); (first | (have k1 := Box.go k1 hbz1) | (have k1 := Box.go (Box.drew k1) hbz1)); (first | (have k2 := Box.go k2 hbz1) | (have k2 := Box.go (Box.drew k2) hbz1)); (first | (have k3 := Box.go k3 hbz1) | (have k3 := Box.go (Box.drew k3) hbz1)); have p1 := k1.1; have q1 := k1.2.1; have p2 := k2.1; have q2 := k2.2.1; have p3 := k3.1; have q3 := k3.2.1
  go_wp2_with fail
  refine hK.out _ _ ⟨p1, q1, p2, q2, p3, q3⟩ (fun hHeld => ?_)
  clear hK K
  try simp only [Act.put, List.getElem_toArray, List.getElem_cons_zero, List.getElem_cons_succ, List.setIfInBounds_toArray, List.set_cons_zero, List.set_cons_succ]
  refine wpAnyH_take (i := 5) (v := (.bool true)) rfl (by kernel_rfl) (by kernel_rfl) (by kernel_rfl) (fun _ _ _ h => h) (Or.inl ⟨by kernel_rfl, by intro w hSw; (try dsimp only at hSw); go_simp⟩) (by assumption) ?_
  try simp only [Act.put, List.getElem_toArray, List.getElem_cons_zero, List.getElem_cons_succ, List.setIfInBounds_toArray, List.set_cons_zero, List.set_cons_succ]
  refine wpAnyH_take (i := 6) (v := (.bool true)) rfl (by kernel_rfl) (by kernel_rfl) (by kernel_rfl) (fun _ _ _ h => h) (Or.inl ⟨by kernel_rfl, by intro w hSw; (try dsimp only at hSw); go_simp⟩) (by assumption) ?_
  try simp only [Act.put, List.getElem_toArray, List.getElem_cons_zero, List.getElem_cons_succ, List.setIfInBounds_toArray, List.set_cons_zero, List.set_cons_succ]
  refine wpAnyH_take (i := 7) (v := (.int .i64 1)) rfl (by kernel_rfl) (by kernel_rfl) (by kernel_rfl) (fun _ _ _ h => h) (Or.inl ⟨by kernel_rfl, by intro w hSw; (try dsimp only at hSw); go_simp⟩) (by assumption) ?_
  try simp only [Act.put, List.getElem_toArray, List.getElem_cons_zero, List.getElem_cons_succ, List.setIfInBounds_toArray, List.set_cons_zero, List.set_cons_succ]
  refine wpAnyH_take (i := 8) (v := (.bool true)) rfl (by kernel_rfl) (by kernel_rfl) (by kernel_rfl) (fun _ _ _ h => h) (Or.inl ⟨by kernel_rfl, by intro w hSw; (try dsimp only at hSw); go_simp⟩) (by assumption) ?_
  try simp only [Act.put, List.getElem_toArray, List.getElem_cons_zero, List.getElem_cons_succ, List.setIfInBounds_toArray, List.set_cons_zero, List.set_cons_succ]
  refine wpAnyH_take (i := 9) (v := (.bool true)) rfl (by kernel_rfl) (by kernel_rfl) (by kernel_rfl) (fun _ _ _ h => h) (Or.inl ⟨by kernel_rfl, by intro w hSw; (try dsimp only at hSw); go_simp⟩) (by assumption) ?_
  try simp only [Act.put, List.getElem_toArray, List.getElem_cons_zero, List.getElem_cons_succ, List.setIfInBounds_toArray, List.set_cons_zero, List.set_cons_succ]
  refine wpAnyH_take (i := 10) (v := undef) rfl (by kernel_rfl) (by kernel_rfl) (by kernel_rfl) (fun _ _ _ h => h) (Or.inr ⟨by kernel_rfl, rfl⟩) (by assumption) ?_
  try simp only [Act.put, List.getElem_toArray, List.getElem_cons_zero, List.getElem_cons_succ, List.setIfInBounds_toArray, List.set_cons_zero, List.set_cons_succ]
  refine wpAnyH_take (i := 11) (v := undef) rfl (by kernel_rfl) (by kernel_rfl) (by kernel_rfl) (fun _ _ _ h => h) (Or.inr ⟨by kernel_rfl, rfl⟩) (by assumption) ?_
  try simp only [Act.put, List.getElem_toArray, List.getElem_cons_zero, List.getElem_cons_succ, List.setIfInBounds_toArray, List.set_cons_zero, List.set_cons_succ]
  refine wpAnyH_take (i := 12) (v := undef) rfl (by kernel_rfl) (by kernel_rfl) (by kernel_rfl) (fun _ _ _ h => h) (Or.inr ⟨by kernel_rfl, rfl⟩) (by assumption) ?_
  try simp only [Act.put, List.getElem_toArray, List.getElem_cons_zero, List.getElem_cons_succ, List.setIfInBounds_toArray, List.set_cons_zero, List.set_cons_succ]
  refine wpAnyH_take (i := 13) (v := undef) rfl (by kernel_rfl) (by kernel_rfl) (by kernel_rfl) (fun _ _ _ h => h) (Or.inr ⟨by kernel_rfl, rfl⟩) (by assumption) ?_
  try simp only [Act.put, List.getElem_toArray, List.getElem_cons_zero, List.getElem_cons_succ, List.setIfInBounds_toArray, List.set_cons_zero, List.set_cons_succ]
  refine wpAnyH_take (i := 14) (v := undef) rfl (by kernel_rfl) (by kernel_rfl) (by kernel_rfl) (fun _ _ _ h => h) (Or.inr ⟨by kernel_rfl, rfl⟩) (by assumption) ?_
  try simp only [Act.put, List.getElem_toArray, List.getElem_cons_zero, List.getElem_cons_succ, List.setIfInBounds_toArray, List.set_cons_zero, List.set_cons_succ]
  refine wpAnyH_take (i := 15) (v := undef) rfl (by kernel_rfl) (by kernel_rfl) (by kernel_rfl) (fun _ _ _ h => h) (Or.inr ⟨by kernel_rfl, rfl⟩) (by assumption) ?_
  try simp only [Act.put, List.getElem_toArray, List.getElem_cons_zero, List.getElem_cons_succ, List.setIfInBounds_toArray, List.set_cons_zero, List.set_cons_succ]
  refine wpAnyH_take (i := 16) (v := undef) rfl (by kernel_rfl) (by kernel_rfl) (by kernel_rfl) (fun _ _ _ h => h) (Or.inr ⟨by kernel_rfl, rfl⟩) (by assumption) ?_
  try simp only [Act.put, List.getElem_toArray, List.getElem_cons_zero, List.getElem_cons_succ, List.setIfInBounds_toArray, List.set_cons_zero, List.set_cons_succ]
  refine wpAnyH_take (i := 17) (v := undef) rfl (by kernel_rfl) (by kernel_rfl) (by kernel_rfl) (fun _ _ _ h => h) (Or.inr ⟨by kernel_rfl, rfl⟩) (by assumption) ?_
  try simp only [Act.put, List.getElem_toArray, List.getElem_cons_zero, List.getElem_cons_succ, List.setIfInBounds_toArray, List.set_cons_zero, List.set_cons_succ]
  refine wpAnyH_take (i := 18) (v := (.bool true)) rfl (by kernel_rfl) (by kernel_rfl) (by kernel_rfl) (fun _ _ _ h => h) (Or.inl ⟨by kernel_rfl, by intro w hSw; (try dsimp only at hSw); go_simp⟩) (by assumption) ?_
  try simp only [Act.put, List.getElem_toArray, List.getElem_cons_zero, List.getElem_cons_succ, List.setIfInBounds_toArray, List.set_cons_zero, List.set_cons_succ]
  refine wpAnyH_take (i := 19) (v := (.bool true)) rfl (by kernel_rfl) (by kernel_rfl) (by kernel_rfl) (fun _ _ _ h => h) (Or.inl ⟨by kernel_rfl, by intro w hSw; (try dsimp only at hSw); go_simp⟩) (by assumption) ?_
  try simp only [Act.put, List.getElem_toArray, List.getElem_cons_zero, List.getElem_cons_succ, List.setIfInBounds_toArray, List.set_cons_zero, List.set_cons_succ]
  refine wpAnyH_take (i := 20) (v := (.bool true)) rfl (by kernel_rfl) (by kernel_rfl) (by kernel_rfl) (fun _ _ _ h => h) (Or.inl ⟨by kernel_rfl, by intro w hSw; (try dsimp only at hSw); go_simp⟩) (by assumption) ?_
  try simp only [Act.put, List.getElem_toArray, List.getElem_cons_zero, List.getElem_cons_succ, List.setIfInBounds_toArray, List.set_cons_zero, List.set_cons_succ]
  refine wpAnyH_take (i := 21) (v := (.int .i64 1)) rfl (by kernel_rfl) (by kernel_rfl) (by kernel_rfl) (fun _ _ _ h => h) (Or.inl ⟨by kernel_rfl, by intro w hSw; (try dsimp only at hSw); go_simp⟩) (by assumption) ?_
  try simp only [Act.put, List.getElem_toArray, List.getElem_cons_zero, List.getElem_cons_succ, List.setIfInBounds_toArray, List.set_cons_zero, List.set_cons_succ]
  refine wpAnyH_take (i := 22) (v := (.bool true)) rfl (by kernel_rfl) (by kernel_rfl) (by kernel_rfl) (fun _ _ _ h => h) (Or.inl ⟨by kernel_rfl, by intro w hSw; (try dsimp only at hSw); go_simp⟩) (by assumption) ?_
  try simp only [Act.put, List.getElem_toArray, List.getElem_cons_zero, List.getElem_cons_succ, List.setIfInBounds_toArray, List.set_cons_zero, List.set_cons_succ]
  refine wpAnyH_take (i := 23) (v := (.bool true)) rfl (by kernel_rfl) (by kernel_rfl) (by kernel_rfl) (fun _ _ _ h => h) (Or.inl ⟨by kernel_rfl, by intro w hSw; (try dsimp only at hSw); go_simp⟩) (by assumption) ?_
  try simp only [Act.put, List.getElem_toArray, List.getElem_cons_zero, List.getElem_cons_succ, List.setIfInBounds_toArray, List.set_cons_zero, List.set_cons_succ]
  refine wpAnyH_take (i := 24) (v := undef) rfl (by kernel_rfl) (by kernel_rfl) (by kernel_rfl) (fun _ _ _ h => h) (Or.inr ⟨by kernel_rfl, rfl⟩) (by assumption) ?_
  try simp only [Act.put, List.getElem_toArray, List.getElem_cons_zero, List.getElem_cons_succ, List.setIfInBounds_toArray, List.set_cons_zero, List.set_cons_succ]
  refine wpAnyH_take (i := 25) (v := undef) rfl (by kernel_rfl) (by kernel_rfl) (by kernel_rfl) (fun _ _ _ h => h) (Or.inr ⟨by kernel_rfl, rfl⟩) (by assumption) ?_
  try simp only [Act.put, List.getElem_toArray, List.getElem_cons_zero, List.getElem_cons_succ, List.setIfInBounds_toArray, List.set_cons_zero, List.set_cons_succ]
  refine wpAnyH_take (i := 26) (v := undef) rfl (by kernel_rfl) (by kernel_rfl) (by kernel_rfl) (fun _ _ _ h => h) (Or.inr ⟨by kernel_rfl, rfl⟩) (by assumption) ?_
  try simp only [Act.put, List.getElem_toArray, List.getElem_cons_zero, List.getElem_cons_succ, List.setIfInBounds_toArray, List.set_cons_zero, List.set_cons_succ]
  refine wpAnyH_take (i := 27) (v := undef) rfl (by kernel_rfl) (by kernel_rfl) (by kernel_rfl) (fun _ _ _ h => h) (Or.inr ⟨by kernel_rfl, rfl⟩) (by assumption) ?_
  try simp only [Act.put, List.getElem_toArray, List.getElem_cons_zero, List.getElem_cons_succ, List.setIfInBounds_toArray, List.set_cons_zero, List.set_cons_succ]
  refine wpAnyH_take (i := 28) (v := undef) rfl (by kernel_rfl) (by kernel_rfl) (by kernel_rfl) (fun _ _ _ h => h) (Or.inr ⟨by kernel_rfl, rfl⟩) (by assumption) ?_
  try simp only [Act.put, List.getElem_toArray, List.getElem_cons_zero, List.getElem_cons_succ, List.setIfInBounds_toArray, List.set_cons_zero, List.set_cons_succ]
  refine wpAnyH_take (i := 29) (v := undef) rfl (by kernel_rfl) (by kernel_rfl) (by kernel_rfl) (fun _ _ _ h => h) (Or.inr ⟨by kernel_rfl, rfl⟩) (by assumption) ?_
  try simp only [Act.put, List.getElem_toArray, List.getElem_cons_zero, List.getElem_cons_succ, List.setIfInBounds_toArray, List.set_cons_zero, List.set_cons_succ]
  refine wpAnyH_take (i := 30) (v := undef) rfl (by kernel_rfl) (by kernel_rfl) (by kernel_rfl) (fun _ _ _ h => h) (Or.inr ⟨by kernel_rfl, rfl⟩) (by assumption) ?_
  try simp only [Act.put, List.getElem_toArray, List.getElem_cons_zero, List.getElem_cons_succ, List.setIfInBounds_toArray, List.set_cons_zero, List.set_cons_succ]
  refine wpAnyH_take (i := 31) (v := undef) rfl (by kernel_rfl) (by kernel_rfl) (by kernel_rfl) (fun _ _ _ h => h) (Or.inr ⟨by kernel_rfl, rfl⟩) (by assumption) ?_
  try simp only [Act.put, List.getElem_toArray, List.getElem_cons_zero, List.getElem_cons_succ, List.setIfInBounds_toArray, List.set_cons_zero, List.set_cons_succ]
  refine wpAnyH_take (i := 32) (v := (.bool true)) rfl (by kernel_rfl) (by kernel_rfl) (by kernel_rfl) (fun _ _ _ h => h) (Or.inl ⟨by kernel_rfl, by intro w hSw; (try dsimp only at hSw); go_simp⟩) (by assumption) ?_
  try simp only [Act.put, List.getElem_toArray, List.getElem_cons_zero, List.getElem_cons_succ, List.setIfInBounds_toArray, List.set_cons_zero, List.set_cons_succ]
  refine wpAnyH_take (i := 33) (v := (.bool true)) rfl (by kernel_rfl) (by kernel_rfl) (by kernel_rfl) (fun _ _ _ h => h) (Or.inl ⟨by kernel_rfl, by intro w hSw; (try dsimp only at hSw); go_simp⟩) (by assumption) ?_
  try simp only [Act.put, List.getElem_toArray, List.getElem_cons_zero, List.getElem_cons_succ, List.setIfInBounds_toArray, List.set_cons_zero, List.set_cons_succ]
  refine wpAnyH_take (i := 34) (v := (.bool true)) rfl (by kernel_rfl) (by kernel_rfl) (by kernel_rfl) (fun _ _ _ h => h) (Or.inl ⟨by kernel_rfl, by intro w hSw; (try dsimp only at hSw); go_simp⟩) (by assumption) ?_
  try simp only [Act.put, List.getElem_toArray, List.getElem_cons_zero, List.getElem_cons_succ, List.setIfInBounds_toArray, List.set_cons_zero, List.set_cons_succ]
  refine wpAnyH_ready (rs := [35]) (by kernel_rfl) (by simp) ?_
  refine AllReadyH.cons rfl (fun K hK => ?_) AllReadyH.nil
  go_simp
  go_at_call 11
  (with_reducible refine (awake_any _ (by first | exact hG.tab | exact hG.drew.tab)).mono ?_); rintro e wz2 ⟨rfl, hbz2⟩; (first | (have hG := G.go hG hbz2) | (have hG := G.go (G.drew hG) hbz2)); (first | (have k1 := Box.go k1 hbz2) | (have k1 := Box.go (Box.drew k1) hbz2)); (first | (have k2 := Box.go k2 hbz2) | (have k2 := Box.go (Box.drew k2) hbz2)); (first | (have k3 := Box.go k3 hbz2) | (have k3 := Box.go (Box.drew k3) hbz2)); have p1 := k1.1; have q1 := k1.2.1; have p2 := k2.1; have q2 := k2.2.1; have p3 := k3.1; have q3 := k3.2.1
  go_wp2_with fail
  refine hK.out _ _ ⟨p1, q1, p2, q2, p3, q3⟩ (fun hHeld => ?_)
  clear hK K
  try simp only [Act.put, List.getElem_toArray, List.getElem_cons_zero, List.getElem_cons_succ, List.setIfInBounds_toArray, List.set_cons_zero, List.set_cons_succ]
  refine wpAnyH_take (i := 36) (v := (.bool true)) rfl (by kernel_rfl) (by kernel_rfl) (by kernel_rfl) (fun _ _ _ h => h) (Or.inl ⟨by kernel_rfl, by intro w hSw; (try dsimp only at hSw); go_simp⟩) (by assumption) ?_
  try simp only [Act.put, List.getElem_toArray, List.getElem_cons_zero, List.getElem_cons_succ, List.setIfInBounds_toArray, List.set_cons_zero, List.set_cons_succ]
  refine wpAnyH_take (i := 37) (v := (.bool true)) rfl (by kernel_rfl) (by kernel_rfl) (by kernel_rfl) (fun _ _ _ h => h) (Or.inl ⟨by kernel_rfl, by intro w hSw; (try dsimp only at hSw); go_simp⟩) (by assumption) ?_
  try simp only [Act.put, List.getElem_toArray, List.getElem_cons_zero, List.getElem_cons_succ, List.setIfInBounds_toArray, List.set_cons_zero, List.set_cons_succ]
  refine wpAnyH_done (by kernel_rfl) ?_ _
  go_wp2_with fail
  go_ret
  exact ⟨rfl, hG.below⟩

end Go.Proofs.YtdpheomokeikbaaDoor
