
/- The walk of multiplying where digits are multiplied. Conditions: the digits can be read. -/
import Derived.Test.YtdkmmnehlmaebaaGreatDoorNWe
namespace Go.Proofs.YtdkmmnehlmaebaaGreatDoor.Na
open Go.RowKit Go.NT

theorem zeros_cells (z : Value) (n : Nat) (hz : z = .int .u32 0) : (madeCells z.cells (n * 1)).toList = (List.replicate n (0 : Int)).map (Value.int .u32) := by
  subst hz
  rw [show (Value.int IntKind.u32 0).cells = #[.int .u32 0] from rfl, toList_madeCells_one, Nat.mul_one, List.map_replicate]

set_option maxRecDepth 100000 in
set_option maxHeartbeats 4000000 in
theorem mul_fin (A A' : Option Addr) (n n' c c' : Nat) (xs ys : List Int) (w : World) (hx : NV w A n c xs) (hy : NV w A' n' c' ys) (hn : n ≤ 1099511627776) (hn' : n' ≤ 1099511627776) (hxz : val xs ≠ 0) (hyz : val ys ≠ 0) :
    Calls Tryz.prog 42 #[.agg #[.bool false, .slice A n c], .agg #[.bool false, .slice A' n' c']] w fun e w' => NR w w' e (some (val xs * val ys)) (n + n') := by
  obtain ⟨i60, hi, hz0, hz1, hz2⟩ := i60
  have hX := hx.strip
  have hY := hy.strip
  have e1 := val_strip xs
  have e2 := val_strip ys
  have nX := Norm.strip xs
  have nY := Norm.strip ys
  have lx2 := (strip_take xs).2
  have ly2 := (strip_take ys).2
  rw [hx.len] at lx2
  rw [hy.len] at ly2
  obtain ⟨h1, h2, h3, h4⟩ := hx
  obtain ⟨k1, k2, k3, k4⟩ := hy
  obtain ⟨X, hXd⟩ : ∃ X, X = strip xs := ⟨_, rfl⟩
  obtain ⟨Y, hYd⟩ : ∃ Y, Y = strip ys := ⟨_, rfl⟩
  rw [← hXd] at hX e1 nX lx2
  rw [← hYd] at hY e2 nY ly2
  have HX := Lib.hid hXd.symm
  have HY := Lib.hid hYd.symm
  have uX := hX.2.2.1
  have uY := hY.2.2.1
  have rX := hX.1
  have rY := hY.1
  have HV := Lib.hid (show val xs * val ys = val X * val Y by rw [e1, e2])
  rw [← e1] at hxz
  rw [← e2] at hyz
  have hx0 : X.length ≠ 0 := fun h => hxz (by rw [List.eq_nil_of_length_eq_zero h]; rfl)
  have hy0 : Y.length ≠ 0 := fun h => hyz (by rw [List.eq_nil_of_length_eq_zero h]; rfl)
  have bx : ((X.length : Int) == 0) = false := by rw [beq_eq_false_iff_ne]; omega
  have by0 : ((Y.length : Int) == 0) = false := by rw [beq_eq_false_iff_ne]; omega
  clear e1 e2 hXd hYd hX hY hxz hyz hx0 hy0
  go_enter Tryz.func42, Tryz.ntmps42
  go_wp2_with fail
  go_quiet ((go_at_call 69; exact whole_q (by first | exact h1.al3 _ _ _ | exact k1.al3 _ _ _) (by first | exact h2 | exact k2) (by first | exact h4 | exact k4) _))
  rw [HX.out, HY.out]
  have hc0 : (((((w.alloc (Obj.cells #[Value.bool false, Value.slice A n c] 24)).alloc (Obj.cells #[Value.bool false, Value.slice A' n' c'] 24)).alloc (Obj.cells #[Value.bool false, Value.slice none 0 0] 24)).drewN nq).setCell ⟨w.heap.size + 1 + 1, 0, none⟩ (.bool false)).cell? ⟨w.heap.size + 1 + 1, 0, none⟩ = some (.bool false) := by go_simp
  clear hc0
  have hsz : w.heap.size + 3 = ((((w.alloc (Obj.cells #[Value.bool false, Value.slice A n c] 24)).alloc (Obj.cells #[Value.bool false, Value.slice A' n' c'] 24)).alloc (Obj.cells #[Value.bool false, Value.slice none 0 0] 24)).drewN nq).heap.size := by simp
  have hc0 : ((((w.alloc (Obj.cells #[Value.bool false, Value.slice A n c] 24)).alloc (Obj.cells #[Value.bool false, Value.slice A' n' c'] 24)).alloc (Obj.cells #[Value.bool false, Value.slice none 0 0] 24)).drewN nq).cell? ⟨w.heap.size + 1 + 1, 0, none⟩ = some (.bool false) := by go_simp
  have hc1 : ((((w.alloc (Obj.cells #[Value.bool false, Value.slice A n c] 24)).alloc (Obj.cells #[Value.bool false, Value.slice A' n' c'] 24)).alloc (Obj.cells #[Value.bool false, Value.slice none 0 0] 24)).drewN nq).cell? ⟨w.heap.size + 1 + 1, 1, none⟩ = some (.slice none 0 0) := by go_simp
  have hf0 : ((((w.alloc (Obj.cells #[Value.bool false, Value.slice A n c] 24)).alloc (Obj.cells #[Value.bool false, Value.slice A' n' c'] 24)).alloc (Obj.cells #[Value.bool false, Value.slice none 0 0] 24)).drewN nq).frozen? ⟨w.heap.size + 1 + 1, 0, none⟩ = false := by go_simp
  have hf1 : ((((w.alloc (Obj.cells #[Value.bool false, Value.slice A n c] 24)).alloc (Obj.cells #[Value.bool false, Value.slice A' n' c'] 24)).alloc (Obj.cells #[Value.bool false, Value.slice none 0 0] 24)).drewN nq).frozen? ⟨w.heap.size + 1 + 1, 1, none⟩ = false := by go_simp
  have hd0 : ((((w.alloc (Obj.cells #[Value.bool false, Value.slice A n c] 24)).alloc (Obj.cells #[Value.bool false, Value.slice A' n' c'] 24)).alloc (Obj.cells #[Value.bool false, Value.slice none 0 0] 24)).drewN nq).cell? ⟨w.heap.size, 0, none⟩ = some (.bool false) := by go_simp
  have hd1 : ((((w.alloc (Obj.cells #[Value.bool false, Value.slice A n c] 24)).alloc (Obj.cells #[Value.bool false, Value.slice A' n' c'] 24)).alloc (Obj.cells #[Value.bool false, Value.slice none 0 0] 24)).drewN nq).cell? ⟨w.heap.size + 1, 0, none⟩ = some (.bool false) := by go_simp
  have hb3 : Below w.heap.size w ((((w.alloc (Obj.cells #[Value.bool false, Value.slice A n c] 24)).alloc (Obj.cells #[Value.bool false, Value.slice A' n' c'] 24)).alloc (Obj.cells #[Value.bool false, Value.slice none 0 0] 24)).drewN nq) := below_drewN (below_al3 w _ _ _) _
  generalize ((((w.alloc (Obj.cells #[Value.bool false, Value.slice A n c] 24)).alloc (Obj.cells #[Value.bool false, Value.slice A' n' c'] 24)).alloc (Obj.cells #[Value.bool false, Value.slice none 0 0] 24)).drewN nq) = W3 at *
  go_wp2_with (at_make; refine wpList_make_full _ rfl (.tmp 49) (.tmp 49) 22 rfl W3.heap.size 67 i60 (.int .u32 0) 1 Tryz.underlying22 hi hz0 hz1 .i64 .i64 _ _ (X.length + Y.length) rfl rfl (by omega) (by omega) (by rw [hz2]; omega) (by unfold maxLen; omega) (Nat.le_refl _) ?_; intro w4 hown hg4)
  rw [zeros_cells _ _ rfl] at hown
  have hb4 : Below W3.heap.size W3 w4 := (Below.refl _ _).grown hg4 (Nat.le_refl _) (by intro k hk; cases hk)
  clear hg4
  go_loopw [53] (fun iv wr => ∃ (k : Nat) (L : List Int), k ≤ X.length ∧ iv = .int .i64 k ∧ wr.ownsRow W3.heap.size 67 1 (.slice (some ⟨W3.heap.size, 0, none⟩) (X.length + Y.length) (X.length + Y.length)) (X.length + Y.length) (L.map (Value.int .u32)) ∧ Below W3.heap.size W3 wr ∧ Hid (MulOut X Y k L)) (fun iv _ => X.length - (intOf iv).toNat)
  case atStart => exact ⟨0, _, Nat.zero_le _, rfl, hown, hb4, Lib.hid (MulOut.start X Y)⟩
  case round =>
    obtain ⟨k, L, hk, rfl, hown2, hb2, hp⟩ := hrel
    by_cases hlt : k < X.length
    · obtain ⟨adx, rfl, _, hcx⟩ := ((rX.below hb3).below (hb2.mono (by omega))).get hlt
      have hXb := uX.getD k
      obtain ⟨d, hd⟩ : ∃ d, d = X.getD k 0 := ⟨_, rfl⟩
      rw [← hd] at hcx hXb
      have HD := Lib.hid hd
      clear hd
      have hXb1 : d < 4294967296 := hXb.2
      have hXb0 := hXb.1
      clear hXb
      go_wp2_with fail
      go_loopw [10, 60] (fun cv kv wr2 => ∃ (j : Nat) (L2 : List Int) (cc : Int), j ≤ Y.length ∧ cv = .int .u64 cc ∧ kv = .int .i64 j ∧ wr2.ownsRow W3.heap.size 67 1 (.slice (some ⟨W3.heap.size, 0, none⟩) (X.length + Y.length) (X.length + Y.length)) (X.length + Y.length) (L2.map (Value.int .u32)) ∧ Below W3.heap.size W3 wr2 ∧ Hid (MulIn L Y d k j L2 cc)) (fun _ kv _ => Y.length - (intOf kv).toNat)
      case atStart => exact ⟨0, L, 0, Nat.zero_le _, rfl, rfl, hown2, hb2, Lib.hid hp.out.enter⟩
      case round =>
        obtain ⟨j, L2, cc, hj, rfl, rfl, hown3, hb3', hq⟩ := hrel
        by_cases hlt2 : j < Y.length
        · obtain ⟨ady, rfl, _, hcy⟩ := ((rY.below hb3).below (hb3'.mono (by omega))).get hlt2
          obtain ⟨hcl, hfz⟩ := Reads.getU hown3 (show k + j < X.length + Y.length by omega)
          have hst := Lib.hid (hq.out.step uY hXb0 hXb1 hlt2 (by have := hp.out.len; omega))
          obtain ⟨hm1, hm2, hl1, hl2⟩ := hq.out.bound (k := j) uY hXb0 hXb1
          have hm2' : d * Y.getD j 0 ≤ 18446744065119617025 := hm2
          have hl2' : L2.getD (k + j) 0 < 4294967296 := hl2
          have hYb := uY.getD j
          have hYb1 : Y.getD j 0 < 4294967296 := hYb.2
          have hYb0 := hYb.1
          have hcb := hq.out.c0
          have hcb2 : cc < 4294967296 := hq.out.c1
          have hos := fun x => own_set hown3 (k + j) x hb3' (Nat.le_refl _)
          have hkj : (((k : Int) + (j : Int)).toNat) = k + j := by omega
          clear hm2 hl2 hYb
          generalize L2.getD (k + j) 0 = x at *
          generalize Y.getD j 0 = y at *
          go_wp2_with fail
          exact ⟨⟨j + 1, _, _, by omega, rfl, by go_num, (hos _).1, (hos _).2, hst⟩, by simp [intOf]; omega⟩
        · obtain rfl : j = Y.length := by omega
          have hst := Lib.hid (hp.out.step hlt (HD.out ▸ hq.out))
          obtain ⟨hcl, hfz⟩ := Reads.getU hown3 (show k + Y.length < X.length + Y.length by omega)
          have hcb := hq.out.c0
          have hcb2 : cc < 4294967296 := hq.out.c1
          have hos := fun x => own_set hown3 (k + Y.length) x hb3' (Nat.le_refl _)
          have hkj : (((k : Int) + (Y.length : Int)).toNat) = k + Y.length := by omega
          have hcc : cc % 4294967296 = cc := by omega
          rw [show (W : Int) = 4294967296 from rfl, hcc] at hst
          clear hcc
          go_wp2_with fail
          exact ⟨⟨k + 1, _, by omega, by go_num, (hos _).1, (hos _).2, hst⟩, by simp [intOf]; omega⟩
    · obtain rfl : k = X.length := by omega
      have hm := hp.out.done
      have HM := Lib.hid hm
      have hU := hp.out.u
      clear hm
      have g0 := (hb2.cell (p := ⟨w.heap.size + 1 + 1, 0, none⟩) (show w.heap.size + 1 + 1 < _ by omega)).trans hc0
      have g1 := (hb2.cell (p := ⟨w.heap.size + 1 + 1, 1, none⟩) (show w.heap.size + 1 + 1 < _ by omega)).trans hc1
      have g2 := (hb2.frozen (p := ⟨w.heap.size + 1 + 1, 0, none⟩) (show w.heap.size + 1 + 1 < _ by omega)).trans hf0
      have g3 := (hb2.frozen (p := ⟨w.heap.size + 1 + 1, 1, none⟩) (show w.heap.size + 1 + 1 < _ by omega)).trans hf1
      go_wp2_with (go_at_call 69; refine (whole_any _ _ _ L wr (Reads.of_own hown2) (Nat.le_refl _) (by omega)).mono ?_; rintro e w' ⟨rfl, rfl⟩)
      rw [HV.out]
      exact bodyPost_ret (v := .agg #[.bool false, .slice (some ⟨W3.heap.size, 0, none⟩) (strip L).length (X.length + Y.length)]) (by simp [results, Tryz.results42, go_sem, g0, g1]) rfl (NR.of_own hown2 (by omega) (by omega) (hb3.trans (hb2.mono (by omega))) hU (Nat.le_refl _) (by omega) HM (by omega) _ _)

theorem mul_any (b b' : Bool) (A A' : Option Addr) (n n' c c' N : Nat) (xs ys : List Int) (w : World) (hx : NV w A n c xs) (hy : NV w A' n' c' ys) (hn : n ≤ 1099511627776) (hn' : n' ≤ 1099511627776) (hN : n + n' ≤ N) :
    Calls Tryz.prog 42 #[.agg #[.bool b, .slice A n c], .agg #[.bool b', .slice A' n' c']] w fun e w' => NR w w' e (mulM (mean b xs) (mean b' ys)) N := by
  by_cases hb : b = false ∧ b' = false ∧ val xs ≠ 0 ∧ val ys ≠ 0
  · obtain ⟨rfl, rfl, h1, h2⟩ := hb
    exact (mul_fin A A' n n' c c' xs ys w hx hy hn hn' h1 h2).mono fun e w' ⟨b, A, m, c, rs, h1, h2, h3, h4, h5, h6, h7⟩ => ⟨b, A, m, c, rs, h1, h2, h3, h4, h5, Lib.hid (Nat.le_trans h6.out hN), h7⟩
  · exact mul_small b b' A A' n n' c c' N xs ys w hx hy hb

end Go.Proofs.YtdkmmnehlmaebaaGreatDoor.Na
