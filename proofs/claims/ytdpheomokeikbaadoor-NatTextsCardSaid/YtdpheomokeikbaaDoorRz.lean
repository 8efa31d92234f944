/- Unbytes where the bytes are none, too few, too many, no number; the document's own UnbytesNat. Conditions: the bytes can be read. -/
import Derived.Test.YtdpheomokeikbaaDoorRy
namespace Go.Proofs.YtdpheomokeikbaaDoor
open Go.RowKit Go.NT Go.Lib

set_option linter.unusedSimpArgs false in
set_option maxRecDepth 100000 in
set_option maxHeartbeats 8000000 in
theorem unb_fnot (A : Option Addr) (L c n : Nat) (zs xs : List Int) (w : World) (h : Reads w w.heap.size 1 A L (zs.map (Value.int .u8))) (hn : n ≤ 64) (hL : 1 + 4 * n ≤ L) (hL2 : L ≤ 9223372036854775807) (h0 : zs.getD 0 0 = (n : Int)) (hxl : xs.length = n) (hu : U32 xs)
    (hz : Hid (∀ k, k < n → zs.getD (1 + 4 * k) 0 = xs.getD k 0 % 256 ∧ zs.getD (1 + 4 * k + 1) 0 = xs.getD k 0 / 256 % 256 ∧ zs.getD (1 + 4 * k + 2) 0 = xs.getD k 0 / 65536 % 256 ∧ zs.getD (1 + 4 * k + 3) 0 = xs.getD k 0 / 16777216))
    (hM : Hid ((if false then ((n : Int) == 0) else (((strip xs).length : Int) == (n : Int))) = false)) :
    Calls Tryd.prog 30 #[.slice A L c] w fun e w' => e = .returned (.tuple #[.agg #[.bool false, .slice none 0 0], .int .i64 0, .int .i64 13]) ∧ Below w.heap.size w w' := by
  obtain ⟨i60, hi, hz0, hz1, hz2⟩ := i60
  have hL1 : (0 : Int) < (L : Int) := by omega
  have hl0 : ((L : Int) == 0) = false := by simp only [beq_eq_false_iff_ne, ne_eq]; omega
  have hl3 : ¬ (L : Int) < 1 + 4 * (n : Int) := by omega
  have hn1 : ¬ (64 : Int) < (n : Int) := by omega
  have hn2 : ((n : Int) == 255) = false := by simp only [beq_eq_false_iff_ne, ne_eq]; omega
  obtain ⟨ad, rfl, hb, hc⟩ := ReadsB.get (h.alloc (Nat.le_refl _) (Obj.cells #[.bool false, .slice none 0 0] 24)) (show 0 < L by omega)
  rw [h0, show ad.add 0 = ad by unfold Addr.add; simp] at hc
  have hR0 : Res (w.alloc (Obj.cells #[.bool false, .slice none 0 0] 24)) w.heap.size false (.slice none 0 0) := ⟨by go_simp, by go_simp, by go_simp, by go_simp, by simp⟩
  have hXL := Lib.hid hxl
  have HZ0 := Lib.hid h0
  clear hxl h0
  go_enter Tryd.func30, Tryd.ntmps30
  go_wp2_with fail
  go_loopw [41, 3] (fun v pv wr => ∃ (k p : Nat) (A4 : Option Addr) (c4 : Nat), v = .int .u8 k ∧ pv = .int .i64 p ∧ Hid (p = 1 + 4 * k) ∧ k ≤ n ∧ Res wr w.heap.size false (.slice A4 k c4) ∧ wr.ownsRow (w.heap.size + 1) 60 1 (.slice A4 k c4) k ((xs.take k).map (Value.int .u32)) ∧ k ≤ c4 ∧ Below w.heap.size w wr ∧ w.heap.size + 1 ≤ wr.heap.size) (fun v _ _ => n - (RowKit.intOf v).toNat)
  case atStart => exact ⟨0, 1, none, 0, rfl, rfl, Lib.hid rfl, Nat.zero_le _, hR0, own_nil _ _ _, Nat.le_refl _, below_al (Below.refl _ _) _, by simp⟩
  case round =>
    obtain ⟨k, p, A4, c4, rfl, rfl, hp, hk, hR, hown, hc4, hbr, hsz⟩ := hrel
    clear hR0 hc
    by_cases hlt : k < n
    · have hlt1 : (k : Int) < (n : Int) := by omega
      have hpp := hp.out
      have hpL : p + 3 < L := by omega
      obtain ⟨z0, z1, z2, z3⟩ := hz.out k hlt
      rw [← hpp] at z0 z1 z2 z3
      have hrb := h.below hbr
      obtain ⟨ad', ea, hab, y0⟩ := ReadsB.get hrb (show p < L by omega)
      obtain rfl : ad = ad' := by injection ea
      obtain ⟨ad', ea, _, y1⟩ := ReadsB.get hrb (show p + 1 < L by omega)
      obtain rfl : ad = ad' := by injection ea
      obtain ⟨ad', ea, _, y2⟩ := ReadsB.get hrb (show p + 2 < L by omega)
      obtain rfl : ad = ad' := by injection ea
      obtain ⟨ad', ea, _, y3⟩ := ReadsB.get hrb (show p + 3 < L by omega)
      obtain rfl : ad = ad' := by injection ea
      rw [z0] at y0
      rw [z1] at y1
      rw [z2] at y2
      rw [z3] at y3
      have hst := Lib.hid (take_snoc xs k (by rw [hXL.out]; exact hlt))
      have hx := hu.getD k
      unfold NT.W at hx
      have hx0 := hx.1
      have hx1 := hx.2
      clear hx z0 z1 z2 z3 hpp
      generalize xs.getD k 0 = x at *
      have t1 : ((p : Int) + 1).toNat = p + 1 := by omega
      have t2 : ((p : Int) + 2).toNat = p + 2 := by omega
      have t3 : ((p : Int) + 3).toNat = p + 3 := by omega
      have b0 : (p : Int) < (L : Int) := by omega
      have b1 : (p : Int) + 1 < (L : Int) := by omega
      have b2 : (p : Int) + 2 < (L : Int) := by omega
      have b3 : (p : Int) + 3 < (L : Int) := by omega
      have bz : (0 : Int) ≤ (p : Int) := by omega
      have q0 := hR.1
      have q1 := hR.2.1
      have q2 := hR.2.2.1
      have q3 := hR.2.2.2.1
      have v1 : IntKind.i64.wrap ((p : Int) + 1) = (p : Int) + 1 := IntWalk.i64_in _ (by omega)
      have v2 : IntKind.i64.wrap ((p : Int) + 2) = (p : Int) + 2 := IntWalk.i64_in _ (by omega)
      have v3 : IntKind.i64.wrap ((p : Int) + 3) = (p : Int) + 3 := IntWalk.i64_in _ (by omega)
      have c1 : (0 : Int) ≤ (p : Int) + 1 := by omega
      have c2 : (0 : Int) ≤ (p : Int) + 2 := by omega
      have c3 : (0 : Int) ≤ (p : Int) + 3 := by omega
      have n0 : w.heap.size ≠ (ad.add p).block := by rw [block_of_add]; omega
      have n1 : w.heap.size ≠ ad.block := by omega
      rw [add_pos ad p 1 (by omega)] at y1
      rw [add_pos ad p 2 (by omega)] at y2
      rw [add_pos ad p 3 (by omega)] at y3
      have hE := join4 x hx0 hx1
      have hownd : ((wr.alloc (Obj.cells #[Value.int .u32 x] 60)).drew).ownsRow (w.heap.size + 1) 60 1 (.slice A4 k c4) k ((xs.take k).map (Value.int .u32)) := hown.alloc (Obj.cells #[Value.int .u32 x] 60)
      have hrdd : Reads ((wr.alloc (Obj.cells #[Value.int .u32 x] 60)).drew) (wr.heap.size + 1) 1 (some ⟨wr.heap.size, 0, none⟩) 1 ([x].map (Value.int .u32)) := Reads.lit1 (Value.int .u32) wr x 60
      have hRd : Res ((wr.alloc (Obj.cells #[Value.int .u32 x] 60)).drew) w.heap.size false (.slice A4 k c4) := hR.alloc _
      have za : ((wr.alloc (Obj.cells #[Value.int .u32 x] 60)).drew).cell? (ad.add p) = some (.int .u8 (x % 256)) := (World.cell?_alloc_lt wr _ _ (by rw [block_of_add]; omega)).trans y0
      have zb : ((wr.alloc (Obj.cells #[Value.int .u32 x] 60)).drew).cell? ⟨ad.block, ad.off + (p + 1), none⟩ = some (.int .u8 (x / 256 % 256)) := (World.cell?_alloc_lt wr _ _ (by show ad.block < _; omega)).trans y1
      have zc : ((wr.alloc (Obj.cells #[Value.int .u32 x] 60)).drew).cell? ⟨ad.block, ad.off + (p + 2), none⟩ = some (.int .u8 (x / 65536 % 256)) := (World.cell?_alloc_lt wr _ _ (by show ad.block < _; omega)).trans y2
      have zd : ((wr.alloc (Obj.cells #[Value.int .u32 x] 60)).drew).cell? ⟨ad.block, ad.off + (p + 3), none⟩ = some (.int .u8 (x / 16777216)) := (World.cell?_alloc_lt wr _ _ (by show ad.block < _; omega)).trans y3
      have d0 := hRd.1
      have d1 := hRd.2.1
      have hbd : Below w.heap.size w ((wr.alloc (Obj.cells #[Value.int .u32 x] 60)).drew) := (below_al hbr _).drew
      go_wp2_with fail
      refine wp_region_held_drew (S := fun w' => w'.cell? (ad.add p) = some (.int .u8 (x % 256)) ∧ w'.cell? ⟨ad.block, ad.off + (p + 1), none⟩ = some (.int .u8 (x / 256 % 256)) ∧ w'.cell? ⟨ad.block, ad.off + (p + 2), none⟩ = some (.int .u8 (x / 65536 % 256)) ∧ w'.cell? ⟨ad.block, ad.off + (p + 3), none⟩ = some (.int .u8 (x / 16777216))) (by kernel_rfl) ⟨y0, y1, y2, y3⟩ (fun hHeld => ?_)
      refine wpAnyH_take (i := 0) (v := ?_) rfl (by kernel_rfl) (by kernel_rfl) (by kernel_rfl) (fun _ _ _ h => h) (Or.inl ⟨by kernel_rfl, ?_⟩) (by assumption) ?_
      rotate_left 1
      · intro w hSw
        (try dsimp only at hSw)
        go_simp
        try with_reducible rfl
      try simp only [Act.put, List.getElem_toArray, List.getElem_cons_zero, List.getElem_cons_succ, List.setIfInBounds_toArray, List.set_cons_zero, List.set_cons_succ]
      refine wpAnyH_take (i := 2) (v := ?_) rfl (by kernel_rfl) (by kernel_rfl) (by kernel_rfl) (fun _ _ _ h => h) (Or.inl ⟨by kernel_rfl, ?_⟩) (by assumption) ?_
      rotate_left 1
      · intro w hSw
        (try dsimp only at hSw)
        go_simp
        try with_reducible rfl
      try simp only [Act.put, List.getElem_toArray, List.getElem_cons_zero, List.getElem_cons_succ, List.setIfInBounds_toArray, List.set_cons_zero, List.set_cons_succ]
      refine wpAnyH_take (i := 3) (v := ?_) rfl (by kernel_rfl) (by kernel_rfl) (by kernel_rfl) (fun _ _ _ h => h) (Or.inl ⟨by kernel_rfl, ?_⟩) (by assumption) ?_
      rotate_left 1
      · intro w hSw
        (try dsimp only at hSw)
        go_simp
        try with_reducible rfl
      try simp only [Act.put, List.getElem_toArray, List.getElem_cons_zero, List.getElem_cons_succ, List.setIfInBounds_toArray, List.set_cons_zero, List.set_cons_succ]
      refine wpAnyH_take (i := 4) (v := ?_) rfl (by kernel_rfl) (by kernel_rfl) (by kernel_rfl) (fun _ _ _ h => h) (Or.inl ⟨by kernel_rfl, ?_⟩) (by assumption) ?_
      rotate_left 1
      · intro w hSw
        (try dsimp only at hSw)
        go_simp
        try with_reducible rfl
      try simp only [Act.put, List.getElem_toArray, List.getElem_cons_zero, List.getElem_cons_succ, List.setIfInBounds_toArray, List.set_cons_zero, List.set_cons_succ]
      refine wpAnyH_take (i := 5) (v := ?_) rfl (by kernel_rfl) (by kernel_rfl) (by kernel_rfl) (fun _ _ _ h => h) (Or.inl ⟨by kernel_rfl, ?_⟩) (by assumption) ?_
      rotate_left 1
      · intro w hSw
        (try dsimp only at hSw)
        go_simp
        try with_reducible rfl
      try simp only [Act.put, List.getElem_toArray, List.getElem_cons_zero, List.getElem_cons_succ, List.setIfInBounds_toArray, List.set_cons_zero, List.set_cons_succ]
      refine wpAnyH_take (i := 6) (v := ?_) rfl (by kernel_rfl) (by kernel_rfl) (by kernel_rfl) (fun _ _ _ h => h) (Or.inl ⟨by kernel_rfl, ?_⟩) (by assumption) ?_
      rotate_left 1
      · intro w hSw
        (try dsimp only at hSw)
        go_simp
        try with_reducible rfl
      try simp only [Act.put, List.getElem_toArray, List.getElem_cons_zero, List.getElem_cons_succ, List.setIfInBounds_toArray, List.set_cons_zero, List.set_cons_succ]
      refine wpAnyH_take (i := 7) (v := ?_) rfl (by kernel_rfl) (by kernel_rfl) (by kernel_rfl) (fun _ _ _ h => h) (Or.inl ⟨by kernel_rfl, ?_⟩) (by assumption) ?_
      rotate_left 1
      · intro w hSw
        (try dsimp only at hSw)
        go_simp
        try with_reducible rfl
      try simp only [Act.put, List.getElem_toArray, List.getElem_cons_zero, List.getElem_cons_succ, List.setIfInBounds_toArray, List.set_cons_zero, List.set_cons_succ]
      refine wpAnyH_take (i := 8) (v := ?_) rfl (by kernel_rfl) (by kernel_rfl) (by kernel_rfl) (fun _ _ _ h => h) (Or.inl ⟨by kernel_rfl, ?_⟩) (by assumption) ?_
      rotate_left 1
      · intro w hSw
        (try dsimp only at hSw)
        go_simp
        try with_reducible rfl
      try simp only [Act.put, List.getElem_toArray, List.getElem_cons_zero, List.getElem_cons_succ, List.setIfInBounds_toArray, List.set_cons_zero, List.set_cons_succ]
      refine wpAnyH_take (i := 9) (v := ?_) rfl (by kernel_rfl) (by kernel_rfl) (by kernel_rfl) (fun _ _ _ h => h) (Or.inl ⟨by kernel_rfl, ?_⟩) (by assumption) ?_
      rotate_left 1
      · intro w hSw
        (try dsimp only at hSw)
        go_simp
        try with_reducible rfl
      try simp only [Act.put, List.getElem_toArray, List.getElem_cons_zero, List.getElem_cons_succ, List.setIfInBounds_toArray, List.set_cons_zero, List.set_cons_succ]
      refine wpAnyH_take (i := 10) (v := ?_) rfl (by kernel_rfl) (by kernel_rfl) (by kernel_rfl) (fun _ _ _ h => h) (Or.inl ⟨by kernel_rfl, ?_⟩) (by assumption) ?_
      rotate_left 1
      · intro w hSw
        (try dsimp only at hSw)
        go_simp
        try with_reducible rfl
      try simp only [Act.put, List.getElem_toArray, List.getElem_cons_zero, List.getElem_cons_succ, List.setIfInBounds_toArray, List.set_cons_zero, List.set_cons_succ]
      refine wpAnyH_take (i := 11) (v := ?_) rfl (by kernel_rfl) (by kernel_rfl) (by kernel_rfl) (fun _ _ _ h => h) (Or.inl ⟨by kernel_rfl, ?_⟩) (by assumption) ?_
      rotate_left 1
      · intro w hSw
        (try dsimp only at hSw)
        go_simp
        try with_reducible rfl
      try simp only [Act.put, List.getElem_toArray, List.getElem_cons_zero, List.getElem_cons_succ, List.setIfInBounds_toArray, List.set_cons_zero, List.set_cons_succ]
      refine wpAnyH_take (i := 12) (v := ?_) rfl (by kernel_rfl) (by kernel_rfl) (by kernel_rfl) (fun _ _ _ h => h) (Or.inl ⟨by kernel_rfl, ?_⟩) (by assumption) ?_
      rotate_left 1
      · intro w hSw
        (try dsimp only at hSw)
        go_simp
        try with_reducible rfl
      try simp only [Act.put, List.getElem_toArray, List.getElem_cons_zero, List.getElem_cons_succ, List.setIfInBounds_toArray, List.set_cons_zero, List.set_cons_succ]
      refine wpAnyH_take (i := 13) (v := ?_) rfl (by kernel_rfl) (by kernel_rfl) (by kernel_rfl) (fun _ _ _ h => h) (Or.inl ⟨by kernel_rfl, ?_⟩) (by assumption) ?_
      rotate_left 1
      · intro w hSw
        (try dsimp only at hSw)
        go_simp
        try with_reducible rfl
      try simp only [Act.put, List.getElem_toArray, List.getElem_cons_zero, List.getElem_cons_succ, List.setIfInBounds_toArray, List.set_cons_zero, List.set_cons_succ]
      refine wpAnyH_take (i := 14) (v := ?_) rfl (by kernel_rfl) (by kernel_rfl) (by kernel_rfl) (fun _ _ _ h => h) (Or.inl ⟨by kernel_rfl, ?_⟩) (by assumption) ?_
      rotate_left 1
      · intro w hSw
        (try dsimp only at hSw)
        go_simp
        try with_reducible rfl
      try simp only [Act.put, List.getElem_toArray, List.getElem_cons_zero, List.getElem_cons_succ, List.setIfInBounds_toArray, List.set_cons_zero, List.set_cons_succ]
      refine wpAnyH_take (i := 15) (v := ?_) rfl (by kernel_rfl) (by kernel_rfl) (by kernel_rfl) (fun _ _ _ h => h) (Or.inl ⟨by kernel_rfl, ?_⟩) (by assumption) ?_
      rotate_left 1
      · intro w hSw
        (try dsimp only at hSw)
        go_simp
        try with_reducible rfl
      try simp only [Act.put, List.getElem_toArray, List.getElem_cons_zero, List.getElem_cons_succ, List.setIfInBounds_toArray, List.set_cons_zero, List.set_cons_succ]
      refine wpAnyH_take (i := 16) (v := ?_) rfl (by kernel_rfl) (by kernel_rfl) (by kernel_rfl) (fun _ _ _ h => h) (Or.inl ⟨by kernel_rfl, ?_⟩) (by assumption) ?_
      rotate_left 1
      · intro w hSw
        (try dsimp only at hSw)
        go_simp
        try with_reducible rfl
      try simp only [Act.put, List.getElem_toArray, List.getElem_cons_zero, List.getElem_cons_succ, List.setIfInBounds_toArray, List.set_cons_zero, List.set_cons_succ]
      refine wpAnyH_take (i := 17) (v := ?_) rfl (by kernel_rfl) (by kernel_rfl) (by kernel_rfl) (fun _ _ _ h => h) (Or.inl ⟨by kernel_rfl, ?_⟩) (by assumption) ?_
      rotate_left 1
      · intro w hSw
        (try dsimp only at hSw)
        go_simp
        try with_reducible rfl
      try simp only [Act.put, List.getElem_toArray, List.getElem_cons_zero, List.getElem_cons_succ, List.setIfInBounds_toArray, List.set_cons_zero, List.set_cons_succ]
      refine wpAnyH_take (i := 18) (v := ?_) rfl (by kernel_rfl) (by kernel_rfl) (by kernel_rfl) (fun _ _ _ h => h) (Or.inl ⟨by kernel_rfl, ?_⟩) (by assumption) ?_
      rotate_left 1
      · intro w hSw
        (try dsimp only at hSw)
        go_simp
        try with_reducible rfl
      try simp only [Act.put, List.getElem_toArray, List.getElem_cons_zero, List.getElem_cons_succ, List.setIfInBounds_toArray, List.set_cons_zero, List.set_cons_succ]
      refine wpAnyH_take (i := 19) (v := ?_) rfl (by kernel_rfl) (by kernel_rfl) (by kernel_rfl) (fun _ _ _ h => h) (Or.inl ⟨by kernel_rfl, ?_⟩) (by assumption) ?_
      rotate_left 1
      · intro w hSw
        (try dsimp only at hSw)
        go_simp
        try with_reducible rfl
      try simp only [Act.put, List.getElem_toArray, List.getElem_cons_zero, List.getElem_cons_succ, List.setIfInBounds_toArray, List.set_cons_zero, List.set_cons_succ]
      refine wpAnyH_take (i := 20) (v := ?_) rfl (by kernel_rfl) (by kernel_rfl) (by kernel_rfl) (fun _ _ _ h => h) (Or.inl ⟨by kernel_rfl, ?_⟩) (by assumption) ?_
      rotate_left 1
      · intro w hSw
        (try dsimp only at hSw)
        go_simp
        try with_reducible rfl
      try simp only [Act.put, List.getElem_toArray, List.getElem_cons_zero, List.getElem_cons_succ, List.setIfInBounds_toArray, List.set_cons_zero, List.set_cons_succ]
      refine wpAnyH_take (i := 21) (v := ?_) rfl (by kernel_rfl) (by kernel_rfl) (by kernel_rfl) (fun _ _ _ h => h) (Or.inl ⟨by kernel_rfl, ?_⟩) (by assumption) ?_
      rotate_left 1
      · intro w hSw
        (try dsimp only at hSw)
        go_simp
        try with_reducible rfl
      try simp only [Act.put, List.getElem_toArray, List.getElem_cons_zero, List.getElem_cons_succ, List.setIfInBounds_toArray, List.set_cons_zero, List.set_cons_succ]
      refine wpAnyH_take (i := 22) (v := ?_) rfl (by kernel_rfl) (by kernel_rfl) (by kernel_rfl) (fun _ _ _ h => h) (Or.inl ⟨by kernel_rfl, ?_⟩) (by assumption) ?_
      rotate_left 1
      · intro w hSw
        (try dsimp only at hSw)
        go_simp
        try with_reducible rfl
      try simp only [Act.put, List.getElem_toArray, List.getElem_cons_zero, List.getElem_cons_succ, List.setIfInBounds_toArray, List.set_cons_zero, List.set_cons_succ]
      refine wpAnyH_take (i := 23) (v := ?_) rfl (by kernel_rfl) (by kernel_rfl) (by kernel_rfl) (fun _ _ _ h => h) (Or.inl ⟨by kernel_rfl, ?_⟩) (by assumption) ?_
      rotate_left 1
      · intro w hSw
        (try dsimp only at hSw)
        go_simp
        try with_reducible rfl
      try simp only [Act.put, List.getElem_toArray, List.getElem_cons_zero, List.getElem_cons_succ, List.setIfInBounds_toArray, List.set_cons_zero, List.set_cons_succ]
      refine wpAnyH_take (i := 24) (v := ?_) rfl (by kernel_rfl) (by kernel_rfl) (by kernel_rfl) (fun _ _ _ h => h) (Or.inl ⟨by kernel_rfl, ?_⟩) (by assumption) ?_
      rotate_left 1
      · intro w hSw
        (try dsimp only at hSw)
        go_simp
        try with_reducible rfl
      try simp only [Act.put, List.getElem_toArray, List.getElem_cons_zero, List.getElem_cons_succ, List.setIfInBounds_toArray, List.set_cons_zero, List.set_cons_succ]
      refine wpAnyH_take (i := 25) (v := ?_) rfl (by kernel_rfl) (by kernel_rfl) (by kernel_rfl) (fun _ _ _ h => h) (Or.inl ⟨by kernel_rfl, ?_⟩) (by assumption) ?_
      rotate_left 1
      · intro w hSw
        (try dsimp only at hSw)
        go_simp
        try with_reducible rfl
      try simp only [Act.put, List.getElem_toArray, List.getElem_cons_zero, List.getElem_cons_succ, List.setIfInBounds_toArray, List.set_cons_zero, List.set_cons_succ]
      refine wpAnyH_take (i := 26) (v := ?_) rfl (by kernel_rfl) (by kernel_rfl) (by kernel_rfl) (fun _ _ _ h => h) (Or.inl ⟨by kernel_rfl, ?_⟩) (by assumption) ?_
      rotate_left 1
      · intro w hSw
        (try dsimp only at hSw)
        go_simp
        try with_reducible rfl
      try simp only [Act.put, List.getElem_toArray, List.getElem_cons_zero, List.getElem_cons_succ, List.setIfInBounds_toArray, List.set_cons_zero, List.set_cons_succ]
      refine wpAnyH_take (i := 27) (v := ?_) rfl (by kernel_rfl) (by kernel_rfl) (by kernel_rfl) (fun _ _ _ h => h) (Or.inl ⟨by kernel_rfl, ?_⟩) (by assumption) ?_
      rotate_left 1
      · intro w hSw
        (try dsimp only at hSw)
        go_simp
        try with_reducible rfl
      try simp only [Act.put, List.getElem_toArray, List.getElem_cons_zero, List.getElem_cons_succ, List.setIfInBounds_toArray, List.set_cons_zero, List.set_cons_succ]
      refine wpAnyH_take (i := 28) (v := ?_) rfl (by kernel_rfl) (by kernel_rfl) (by kernel_rfl) (fun _ _ _ h => h) (Or.inl ⟨by kernel_rfl, ?_⟩) (by assumption) ?_
      rotate_left 1
      · intro w hSw
        (try dsimp only at hSw)
        go_simp
        try with_reducible rfl
      try simp only [Act.put, List.getElem_toArray, List.getElem_cons_zero, List.getElem_cons_succ, List.setIfInBounds_toArray, List.set_cons_zero, List.set_cons_succ]
      refine wpAnyH_take (i := 29) (v := ?_) rfl (by kernel_rfl) (by kernel_rfl) (by kernel_rfl) (fun _ _ _ h => h) (Or.inl ⟨by kernel_rfl, ?_⟩) (by assumption) ?_
      rotate_left 1
      · intro w hSw
        (try dsimp only at hSw)
        go_simp
        try with_reducible rfl
      try simp only [Act.put, List.getElem_toArray, List.getElem_cons_zero, List.getElem_cons_succ, List.setIfInBounds_toArray, List.set_cons_zero, List.set_cons_succ]
      refine wpAnyH_take (i := 30) (v := ?_) rfl (by kernel_rfl) (by kernel_rfl) (by kernel_rfl) (fun _ _ _ h => h) (Or.inl ⟨by kernel_rfl, ?_⟩) (by assumption) ?_
      rotate_left 1
      · intro w hSw
        (try dsimp only at hSw)
        go_simp
        try with_reducible rfl
      try simp only [Act.put, List.getElem_toArray, List.getElem_cons_zero, List.getElem_cons_succ, List.setIfInBounds_toArray, List.set_cons_zero, List.set_cons_succ]
      refine wpAnyH_ready (rs := [1, 31]) (by kernel_rfl) (by simp) ?_
      refine AllReadyH.cons rfl (fun K hK => ?_) (AllReadyH.cons rfl (fun K hK => ?_) AllReadyH.nil)
      · go_simp
        refine hK.out _ _ (⟨y0, y1, y2, y3⟩) (fun hHeld => ?_)
        clear hK K
        try simp only [Act.put, List.getElem_toArray, List.getElem_cons_zero, List.getElem_cons_succ, List.setIfInBounds_toArray, List.set_cons_zero, List.set_cons_succ]
        refine wpAnyH_ready (rs := [31]) (by kernel_rfl) (by simp) ?_
        refine AllReadyH.cons rfl (fun K hK => ?_) AllReadyH.nil
        go_simp
        refine hK.out _ _ (⟨za, zb, zc, zd⟩) (fun hHeld => ?_)
        clear hK K
        try simp only [Act.put, List.getElem_toArray, List.getElem_cons_zero, List.getElem_cons_succ, List.setIfInBounds_toArray, List.set_cons_zero, List.set_cons_succ]
        refine wpAnyH_ready (rs := [32]) (by kernel_rfl) (by simp) ?_
        refine AllReadyH.cons rfl (fun K hK => ?_) AllReadyH.nil
        refine step_append_reads _ (Value.int .u32) (fun _ => rfl) 22 60 i60 _ 4 Tryd.underlying22 hi hz0 hz1 hz2 rfl rfl (.tmp 44) (.tmp 74) rfl (w.heap.size + 1) _ k (xs.take k) rfl hownd _ _ 1 _ [x] rfl hrdd (by unfold maxLen; omega) (by omega) (by simp; omega) ?_; intro A5 n5 c5 w5 hn5 hc5 hown5 hg5 hb5; have y0 := (hb5.cell (p := ad.add p) (by rw [block_of_add]; omega)).trans za; have y1 := (hb5.cell (p := ⟨ad.block, ad.off + (p + 1), none⟩) (by show ad.block < _; omega)).trans zb; have y2 := (hb5.cell (p := ⟨ad.block, ad.off + (p + 2), none⟩) (by show ad.block < _; omega)).trans zc; have y3 := (hb5.cell (p := ⟨ad.block, ad.off + (p + 3), none⟩) (by show ad.block < _; omega)).trans zd; have hR5 := Res.go hRd hb5 (by omega); have e0 := hR5.1; have e1 := hR5.2.1; have e2 := hR5.2.2.1; have e3 := hR5.2.2.2.1
        refine hK.out _ _ (⟨y0, y1, y2, y3⟩) (fun hHeld => ?_)
        clear hK K
        try simp only [Act.put, List.getElem_toArray, List.getElem_cons_zero, List.getElem_cons_succ, List.setIfInBounds_toArray, List.set_cons_zero, List.set_cons_succ]
        refine wpAnyH_take (i := 33) (v := ?_) rfl (by kernel_rfl) (by kernel_rfl) (by kernel_rfl) (fun _ _ _ h => h) (Or.inl ⟨by kernel_rfl, ?_⟩) (by assumption) ?_
        rotate_left 1
        · intro w hSw
          (try dsimp only at hSw)
          go_simp
          try with_reducible rfl
        try simp only [Act.put, List.getElem_toArray, List.getElem_cons_zero, List.getElem_cons_succ, List.setIfInBounds_toArray, List.set_cons_zero, List.set_cons_succ]
        refine wpAnyH_ready (rs := [34]) (by kernel_rfl) (by simp) ?_
        refine AllReadyH.cons rfl (fun K hK => ?_) AllReadyH.nil
        go_simp
        refine hK.out _ _ (by go_keep) (fun hHeld => ?_)
        clear hK K
        try simp only [Act.put, List.getElem_toArray, List.getElem_cons_zero, List.getElem_cons_succ, List.setIfInBounds_toArray, List.set_cons_zero, List.set_cons_succ]
        refine wpAnyH_done (by kernel_rfl) ?_ _
        go_wp2_with fail
        obtain rfl : n5 = k + 1 := hn5.out
        have hown6 := ownsRow_setCell_below hown5 (a := ⟨w.heap.size, 1, none⟩) (by show w.heap.size < w.heap.size + 1; omega) (Value.slice A5 (k + 1) c5)
        rw [← hst.out] at hown6
        have hb6 : Below w.heap.size w w5 := hbd.trans (hb5.mono (by omega))
        exact ⟨⟨k + 1, p + 4, A5, c5, by go_num, by go_num, Lib.hid (by have := hp.out; omega), by omega, hR5.put1 _, hown6, hc5.out, hb6.setCell (p := ⟨w.heap.size, 1, none⟩) (Nat.le_refl _) _, by have := hR5.2.2.2.2; simp; omega⟩, by simp [RowKit.intOf]; omega⟩
      · go_simp
        refine hK.out _ _ (⟨za, zb, zc, zd⟩) (fun hHeld => ?_)
        clear hK K
        try simp only [Act.put, List.getElem_toArray, List.getElem_cons_zero, List.getElem_cons_succ, List.setIfInBounds_toArray, List.set_cons_zero, List.set_cons_succ]
        refine wpAnyH_ready (rs := [1]) (by kernel_rfl) (by simp) ?_
        refine AllReadyH.cons rfl (fun K hK => ?_) AllReadyH.nil
        go_simp
        refine hK.out _ _ (⟨za, zb, zc, zd⟩) (fun hHeld => ?_)
        clear hK K
        try simp only [Act.put, List.getElem_toArray, List.getElem_cons_zero, List.getElem_cons_succ, List.setIfInBounds_toArray, List.set_cons_zero, List.set_cons_succ]
        refine wpAnyH_ready (rs := [32]) (by kernel_rfl) (by simp) ?_
        refine AllReadyH.cons rfl (fun K hK => ?_) AllReadyH.nil
        refine step_append_reads _ (Value.int .u32) (fun _ => rfl) 22 60 i60 _ 4 Tryd.underlying22 hi hz0 hz1 hz2 rfl rfl (.tmp 44) (.tmp 74) rfl (w.heap.size + 1) _ k (xs.take k) rfl hownd _ _ 1 _ [x] rfl hrdd (by unfold maxLen; omega) (by omega) (by simp; omega) ?_; intro A5 n5 c5 w5 hn5 hc5 hown5 hg5 hb5; have y0 := (hb5.cell (p := ad.add p) (by rw [block_of_add]; omega)).trans za; have y1 := (hb5.cell (p := ⟨ad.block, ad.off + (p + 1), none⟩) (by show ad.block < _; omega)).trans zb; have y2 := (hb5.cell (p := ⟨ad.block, ad.off + (p + 2), none⟩) (by show ad.block < _; omega)).trans zc; have y3 := (hb5.cell (p := ⟨ad.block, ad.off + (p + 3), none⟩) (by show ad.block < _; omega)).trans zd; have hR5 := Res.go hRd hb5 (by omega); have e0 := hR5.1; have e1 := hR5.2.1; have e2 := hR5.2.2.1; have e3 := hR5.2.2.2.1
        refine hK.out _ _ (⟨y0, y1, y2, y3⟩) (fun hHeld => ?_)
        clear hK K
        try simp only [Act.put, List.getElem_toArray, List.getElem_cons_zero, List.getElem_cons_succ, List.setIfInBounds_toArray, List.set_cons_zero, List.set_cons_succ]
        refine wpAnyH_take (i := 33) (v := ?_) rfl (by kernel_rfl) (by kernel_rfl) (by kernel_rfl) (fun _ _ _ h => h) (Or.inl ⟨by kernel_rfl, ?_⟩) (by assumption) ?_
        rotate_left 1
        · intro w hSw
          (try dsimp only at hSw)
          go_simp
          try with_reducible rfl
        try simp only [Act.put, List.getElem_toArray, List.getElem_cons_zero, List.getElem_cons_succ, List.setIfInBounds_toArray, List.set_cons_zero, List.set_cons_succ]
        refine wpAnyH_ready (rs := [34]) (by kernel_rfl) (by simp) ?_
        refine AllReadyH.cons rfl (fun K hK => ?_) AllReadyH.nil
        go_simp
        refine hK.out _ _ (by go_keep) (fun hHeld => ?_)
        clear hK K
        try simp only [Act.put, List.getElem_toArray, List.getElem_cons_zero, List.getElem_cons_succ, List.setIfInBounds_toArray, List.set_cons_zero, List.set_cons_succ]
        refine wpAnyH_done (by kernel_rfl) ?_ _
        go_wp2_with fail
        obtain rfl : n5 = k + 1 := hn5.out
        have hown6 := ownsRow_setCell_below hown5 (a := ⟨w.heap.size, 1, none⟩) (by show w.heap.size < w.heap.size + 1; omega) (Value.slice A5 (k + 1) c5)
        rw [← hst.out] at hown6
        have hb6 : Below w.heap.size w w5 := hbd.trans (hb5.mono (by omega))
        exact ⟨⟨k + 1, p + 4, A5, c5, by go_num, by go_num, Lib.hid (by have := hp.out; omega), by omega, hR5.put1 _, hown6, hc5.out, hb6.setCell (p := ⟨w.heap.size, 1, none⟩) (Nat.le_refl _) _, by have := hR5.2.2.2.2; simp; omega⟩, by simp [RowKit.intOf]; omega⟩
    · obtain rfl : k = n := by omega
      have hlt1 : ¬ (k : Int) < (k : Int) := by omega
      have hpp := hp.out
      subst hpp
      have hrd := Reads.of_own hown
      have hall : xs.take k = xs := List.take_of_length_le (by rw [hXL.out]; exact Nat.le_refl _)
      rw [hall] at hrd
      have hNV : NV wr A4 k c4 xs := ⟨hrd, hc4, hu, by omega⟩
      have q0 := hR.1
      have q1 := hR.2.1
      clear hall hrd
      obtain ⟨P, hP⟩ : ∃ P : Nat, P = 1 + 4 * k := ⟨_, rfl⟩
      rw [← hP]
      have HP := Lib.hid hP
      clear hP
      go_wp2_with (go_at_call 22; (with_reducible refine (may_is false A4 k c4 xs _ hNV hM).mono ?_); rintro e w6 ⟨rfl, hb6⟩; have hR6 := hR.step hb6; have e0 := hR6.1; have e1 := hR6.2.1; have e2 := hR6.2.2.1; have e3 := hR6.2.2.2.1; have hv6 := hNV.below hb6)
      have hb7 := below_step hbr hb6 hbr.size
      exact bodyPost_ret (v := .tuple #[.agg #[.bool false, .slice none 0 0], .int .i64 0, .int .i64 13]) (by simp [results, Tryd.results30, go_sem, e0, e1]) rfl ⟨rfl, (hb7.setCell (p := ⟨w.heap.size, 0, none⟩) (Nat.le_refl _) _).setCell (p := ⟨w.heap.size, 1, none⟩) (Nat.le_refl _) _⟩
set_option linter.unusedSimpArgs false in
set_option maxRecDepth 100000 in
set_option maxHeartbeats 8000000 in
theorem runb_fin (A : Option Addr) (L c n : Nat) (zs xs : List Int) (w : World) (h : Reads w w.heap.size 1 A L (zs.map (Value.int .u8))) (hn : n ≤ 64) (hL : 1 + 4 * n ≤ L) (hL2 : L ≤ 9223372036854775807) (h0 : zs.getD 0 0 = (n : Int)) (hxl : xs.length = n) (hu : U32 xs)
    (hz : Hid (∀ k, k < n → zs.getD (1 + 4 * k) 0 = xs.getD k 0 % 256 ∧ zs.getD (1 + 4 * k + 1) 0 = xs.getD k 0 / 256 % 256 ∧ zs.getD (1 + 4 * k + 2) 0 = xs.getD k 0 / 65536 % 256 ∧ zs.getD (1 + 4 * k + 3) 0 = xs.getD k 0 / 16777216))
    (hM : Hid ((if false then ((n : Int) == 0) else (((strip xs).length : Int) == (n : Int))) = true)) :
    Calls Tryd.prog 31 #[.slice A L c] w fun e w' => ∃ (A' : Option Addr) (c' : Nat), e = .returned (.tuple #[.agg #[.bool false, .slice A' n c'], .int .i64 (1 + 4 * n), .int .i64 0]) ∧ NV w' A' n c' xs ∧ Below w.heap.size w w' := by
  obtain ⟨i60, hi, hz0, hz1, hz2⟩ := i60
  have hL1 : (0 : Int) < (L : Int) := by omega
  have hl0 : ((L : Int) == 0) = false := by simp only [beq_eq_false_iff_ne, ne_eq]; omega
  have hl3 : ¬ (L : Int) < 1 + 4 * (n : Int) := by omega
  have hn1 : ¬ (64 : Int) < (n : Int) := by omega
  have hn2 : ((n : Int) == 255) = false := by simp only [beq_eq_false_iff_ne, ne_eq]; omega
  obtain ⟨ad, rfl, hb, hc⟩ := ReadsB.get (h.alloc (Nat.le_refl _) (Obj.cells #[.bool false, .slice none 0 0] 24)) (show 0 < L by omega)
  rw [h0, show ad.add 0 = ad by unfold Addr.add; simp] at hc
  have hR0 : Res (w.alloc (Obj.cells #[.bool false, .slice none 0 0] 24)) w.heap.size false (.slice none 0 0) := ⟨by go_simp, by go_simp, by go_simp, by go_simp, by simp⟩
  have RR0 : Res ((w.alloc (Obj.cells #[.bool false, .slice none 0 0] 24)).alloc (Obj.cells #[.bool false, .slice none 0 0] 24)) w.heap.size false (.slice none 0 0) := ⟨by go_simp, by go_simp, by go_simp, by go_simp, by first | (simp; done) | (simp; omega)⟩
  have RO0 : Res ((w.alloc (Obj.cells #[.bool false, .slice none 0 0] 24)).alloc (Obj.cells #[.bool false, .slice none 0 0] 24)) (w.heap.size + 1) false (.slice none 0 0) := ⟨by go_simp, by go_simp, by go_simp, by go_simp, by first | (simp; done) | (simp; omega)⟩
  have hXL := Lib.hid hxl
  have HZ0 := Lib.hid h0
  clear hxl h0
  go_enter Tryd.func31, Tryd.ntmps31
  go_wp2_with fail
  go_loopw [7, 8] (fun v _ wr => ∃ (k : Nat) (A4 : Option Addr) (c4 : Nat), v = .int .i64 k ∧ k ≤ n ∧ Res wr (w.heap.size + 1) false (.slice A4 k c4) ∧ Res wr w.heap.size false (.slice none 0 0) ∧ wr.ownsRow (w.heap.size + 2) 60 1 (.slice A4 k c4) k ((xs.take k).map (Value.int .u32)) ∧ k ≤ c4 ∧ Below w.heap.size w wr ∧ w.heap.size + 2 ≤ wr.heap.size) (fun v _ _ => n - (RowKit.intOf v).toNat)
  case atStart => exact ⟨0, none, 0, rfl, Nat.zero_le _, RO0, RR0, own_nil _ _ _, Nat.le_refl _, below_al (below_al (Below.refl _ _) _) _, by first | (simp; done) | (simp; omega)⟩
  case round =>
    obtain ⟨k, A4, c4, rfl, hk, hR, hRR, hown, hc4, hbr, hsz⟩ := hrel
    clear hR0 hc RR0 RO0
    by_cases hlt : k < n
    · have hlt1 : (k : Int) < (n : Int) := by omega
      obtain ⟨p, hpp⟩ : ∃ p, p = 1 + 4 * k := ⟨_, rfl⟩
      have hpk : 1 + 4 * (k : Int) = (p : Int) := by omega
      have hpL : p + 3 < L := by omega
      obtain ⟨z0, z1, z2, z3⟩ := hz.out k hlt
      rw [← hpp] at z0 z1 z2 z3
      have hrb := h.below hbr
      obtain ⟨ad', ea, hab, y0⟩ := ReadsB.get hrb (show p < L by omega)
      obtain rfl : ad = ad' := by injection ea
      obtain ⟨ad', ea, _, y1⟩ := ReadsB.get hrb (show p + 1 < L by omega)
      obtain rfl : ad = ad' := by injection ea
      obtain ⟨ad', ea, _, y2⟩ := ReadsB.get hrb (show p + 2 < L by omega)
      obtain rfl : ad = ad' := by injection ea
      obtain ⟨ad', ea, _, y3⟩ := ReadsB.get hrb (show p + 3 < L by omega)
      obtain rfl : ad = ad' := by injection ea
      rw [z0] at y0
      rw [z1] at y1
      rw [z2] at y2
      rw [z3] at y3
      have hst := Lib.hid (take_snoc xs k (by rw [hXL.out]; exact hlt))
      have hx := hu.getD k
      unfold NT.W at hx
      have hx0 := hx.1
      have hx1 := hx.2
      clear hx z0 z1 z2 z3 hpp
      generalize xs.getD k 0 = x at *
      have t1 : ((p : Int) + 1).toNat = p + 1 := by omega
      have t2 : ((p : Int) + 2).toNat = p + 2 := by omega
      have t3 : ((p : Int) + 3).toNat = p + 3 := by omega
      have b0 : (p : Int) < (L : Int) := by omega
      have b1 : (p : Int) + 1 < (L : Int) := by omega
      have b2 : (p : Int) + 2 < (L : Int) := by omega
      have b3 : (p : Int) + 3 < (L : Int) := by omega
      have bz : (0 : Int) ≤ (p : Int) := by omega
      have q0 := hR.1
      have q1 := hR.2.1
      have q2 := hR.2.2.1
      have q3 := hR.2.2.2.1
      have v1 : IntKind.i64.wrap ((p : Int) + 1) = (p : Int) + 1 := IntWalk.i64_in _ (by omega)
      have v2 : IntKind.i64.wrap ((p : Int) + 2) = (p : Int) + 2 := IntWalk.i64_in _ (by omega)
      have v3 : IntKind.i64.wrap ((p : Int) + 3) = (p : Int) + 3 := IntWalk.i64_in _ (by omega)
      have c1 : (0 : Int) ≤ (p : Int) + 1 := by omega
      have c2 : (0 : Int) ≤ (p : Int) + 2 := by omega
      have c3 : (0 : Int) ≤ (p : Int) + 3 := by omega
      have n0 : w.heap.size + 1 ≠ (ad.add p).block := by rw [block_of_add]; omega
      have n1 : w.heap.size + 1 ≠ ad.block := by omega
      rw [add_pos ad p 1 (by omega)] at y1
      rw [add_pos ad p 2 (by omega)] at y2
      rw [add_pos ad p 3 (by omega)] at y3
      have hE := join4 x hx0 hx1
      have hownd : ((wr.alloc (Obj.cells #[Value.int .u32 x] 60)).drew).ownsRow (w.heap.size + 2) 60 1 (.slice A4 k c4) k ((xs.take k).map (Value.int .u32)) := hown.alloc (Obj.cells #[Value.int .u32 x] 60)
      have hrdd : Reads ((wr.alloc (Obj.cells #[Value.int .u32 x] 60)).drew) (wr.heap.size + 1) 1 (some ⟨wr.heap.size, 0, none⟩) 1 ([x].map (Value.int .u32)) := Reads.lit1 (Value.int .u32) wr x 60
      have hRd : Res ((wr.alloc (Obj.cells #[Value.int .u32 x] 60)).drew) (w.heap.size + 1) false (.slice A4 k c4) := hR.alloc _
      have hRRd : Res ((wr.alloc (Obj.cells #[Value.int .u32 x] 60)).drew) w.heap.size false (.slice none 0 0) := hRR.alloc _
      have za : ((wr.alloc (Obj.cells #[Value.int .u32 x] 60)).drew).cell? (ad.add p) = some (.int .u8 (x % 256)) := (World.cell?_alloc_lt wr _ _ (by rw [block_of_add]; omega)).trans y0
      have zb : ((wr.alloc (Obj.cells #[Value.int .u32 x] 60)).drew).cell? ⟨ad.block, ad.off + (p + 1), none⟩ = some (.int .u8 (x / 256 % 256)) := (World.cell?_alloc_lt wr _ _ (by show ad.block < _; omega)).trans y1
      have zc : ((wr.alloc (Obj.cells #[Value.int .u32 x] 60)).drew).cell? ⟨ad.block, ad.off + (p + 2), none⟩ = some (.int .u8 (x / 65536 % 256)) := (World.cell?_alloc_lt wr _ _ (by show ad.block < _; omega)).trans y2
      have zd : ((wr.alloc (Obj.cells #[Value.int .u32 x] 60)).drew).cell? ⟨ad.block, ad.off + (p + 3), none⟩ = some (.int .u8 (x / 16777216)) := (World.cell?_alloc_lt wr _ _ (by show ad.block < _; omega)).trans y3
      have d0 := hRd.1
      have d1 := hRd.2.1
      have hbd : Below w.heap.size w ((wr.alloc (Obj.cells #[Value.int .u32 x] 60)).drew) := (below_al hbr _).drew
      go_wp2_with fail
      refine wp_region_held_drew (S := fun w' => w'.cell? (ad.add p) = some (.int .u8 (x % 256)) ∧ w'.cell? ⟨ad.block, ad.off + (p + 1), none⟩ = some (.int .u8 (x / 256 % 256)) ∧ w'.cell? ⟨ad.block, ad.off + (p + 2), none⟩ = some (.int .u8 (x / 65536 % 256)) ∧ w'.cell? ⟨ad.block, ad.off + (p + 3), none⟩ = some (.int .u8 (x / 16777216))) (by kernel_rfl) ⟨y0, y1, y2, y3⟩ (fun hHeld => ?_)
      refine wpAnyH_take (i := 0) (v := ?_) rfl (by kernel_rfl) (by kernel_rfl) (by kernel_rfl) (fun _ _ _ h => h) (Or.inl ⟨by kernel_rfl, ?_⟩) (by assumption) ?_
      rotate_left 1
      · intro w hSw
        (try dsimp only at hSw)
        go_simp
        try with_reducible rfl
      try simp only [Act.put, List.getElem_toArray, List.getElem_cons_zero, List.getElem_cons_succ, List.setIfInBounds_toArray, List.set_cons_zero, List.set_cons_succ]
      refine wpAnyH_take (i := 2) (v := ?_) rfl (by kernel_rfl) (by kernel_rfl) (by kernel_rfl) (fun _ _ _ h => h) (Or.inl ⟨by kernel_rfl, ?_⟩) (by assumption) ?_
      rotate_left 1
      · intro w hSw
        (try dsimp only at hSw)
        go_simp
        try with_reducible rfl
      try simp only [Act.put, List.getElem_toArray, List.getElem_cons_zero, List.getElem_cons_succ, List.setIfInBounds_toArray, List.set_cons_zero, List.set_cons_succ]
      refine wpAnyH_take (i := 3) (v := ?_) rfl (by kernel_rfl) (by kernel_rfl) (by kernel_rfl) (fun _ _ _ h => h) (Or.inl ⟨by kernel_rfl, ?_⟩) (by assumption) ?_
      rotate_left 1
      · intro w hSw
        (try dsimp only at hSw)
        go_simp
        try with_reducible rfl
      try simp only [Act.put, List.getElem_toArray, List.getElem_cons_zero, List.getElem_cons_succ, List.setIfInBounds_toArray, List.set_cons_zero, List.set_cons_succ]
      refine wpAnyH_take (i := 4) (v := ?_) rfl (by kernel_rfl) (by kernel_rfl) (by kernel_rfl) (fun _ _ _ h => h) (Or.inl ⟨by kernel_rfl, ?_⟩) (by assumption) ?_
      rotate_left 1
      · intro w hSw
        (try dsimp only at hSw)
        go_simp
        try with_reducible rfl
      try simp only [Act.put, List.getElem_toArray, List.getElem_cons_zero, List.getElem_cons_succ, List.setIfInBounds_toArray, List.set_cons_zero, List.set_cons_succ]
      refine wpAnyH_take (i := 5) (v := ?_) rfl (by kernel_rfl) (by kernel_rfl) (by kernel_rfl) (fun _ _ _ h => h) (Or.inl ⟨by kernel_rfl, ?_⟩) (by assumption) ?_
      rotate_left 1
      · intro w hSw
        (try dsimp only at hSw)
        go_simp
        try with_reducible rfl
      try simp only [Act.put, List.getElem_toArray, List.getElem_cons_zero, List.getElem_cons_succ, List.setIfInBounds_toArray, List.set_cons_zero, List.set_cons_succ]
      refine wpAnyH_take (i := 6) (v := ?_) rfl (by kernel_rfl) (by kernel_rfl) (by kernel_rfl) (fun _ _ _ h => h) (Or.inl ⟨by kernel_rfl, ?_⟩) (by assumption) ?_
      rotate_left 1
      · intro w hSw
        (try dsimp only at hSw)
        go_simp
        try with_reducible rfl
      try simp only [Act.put, List.getElem_toArray, List.getElem_cons_zero, List.getElem_cons_succ, List.setIfInBounds_toArray, List.set_cons_zero, List.set_cons_succ]
      refine wpAnyH_take (i := 7) (v := ?_) rfl (by kernel_rfl) (by kernel_rfl) (by kernel_rfl) (fun _ _ _ h => h) (Or.inl ⟨by kernel_rfl, ?_⟩) (by assumption) ?_
      rotate_left 1
      · intro w hSw
        (try dsimp only at hSw)
        go_simp
        try with_reducible rfl
      try simp only [Act.put, List.getElem_toArray, List.getElem_cons_zero, List.getElem_cons_succ, List.setIfInBounds_toArray, List.set_cons_zero, List.set_cons_succ]
      refine wpAnyH_take (i := 8) (v := ?_) rfl (by kernel_rfl) (by kernel_rfl) (by kernel_rfl) (fun _ _ _ h => h) (Or.inl ⟨by kernel_rfl, ?_⟩) (by assumption) ?_
      rotate_left 1
      · intro w hSw
        (try dsimp only at hSw)
        go_simp
        try with_reducible rfl
      try simp only [Act.put, List.getElem_toArray, List.getElem_cons_zero, List.getElem_cons_succ, List.setIfInBounds_toArray, List.set_cons_zero, List.set_cons_succ]
      refine wpAnyH_take (i := 9) (v := ?_) rfl (by kernel_rfl) (by kernel_rfl) (by kernel_rfl) (fun _ _ _ h => h) (Or.inl ⟨by kernel_rfl, ?_⟩) (by assumption) ?_
      rotate_left 1
      · intro w hSw
        (try dsimp only at hSw)
        go_simp
        try with_reducible rfl
      try simp only [Act.put, List.getElem_toArray, List.getElem_cons_zero, List.getElem_cons_succ, List.setIfInBounds_toArray, List.set_cons_zero, List.set_cons_succ]
      refine wpAnyH_take (i := 10) (v := ?_) rfl (by kernel_rfl) (by kernel_rfl) (by kernel_rfl) (fun _ _ _ h => h) (Or.inl ⟨by kernel_rfl, ?_⟩) (by assumption) ?_
      rotate_left 1
      · intro w hSw
        (try dsimp only at hSw)
        go_simp
        try with_reducible rfl
      try simp only [Act.put, List.getElem_toArray, List.getElem_cons_zero, List.getElem_cons_succ, List.setIfInBounds_toArray, List.set_cons_zero, List.set_cons_succ]
      refine wpAnyH_take (i := 11) (v := ?_) rfl (by kernel_rfl) (by kernel_rfl) (by kernel_rfl) (fun _ _ _ h => h) (Or.inl ⟨by kernel_rfl, ?_⟩) (by assumption) ?_
      rotate_left 1
      · intro w hSw
        (try dsimp only at hSw)
        go_simp
        try with_reducible rfl
      try simp only [Act.put, List.getElem_toArray, List.getElem_cons_zero, List.getElem_cons_succ, List.setIfInBounds_toArray, List.set_cons_zero, List.set_cons_succ]
      refine wpAnyH_take (i := 12) (v := ?_) rfl (by kernel_rfl) (by kernel_rfl) (by kernel_rfl) (fun _ _ _ h => h) (Or.inl ⟨by kernel_rfl, ?_⟩) (by assumption) ?_
      rotate_left 1
      · intro w hSw
        (try dsimp only at hSw)
        go_simp
        try with_reducible rfl
      try simp only [Act.put, List.getElem_toArray, List.getElem_cons_zero, List.getElem_cons_succ, List.setIfInBounds_toArray, List.set_cons_zero, List.set_cons_succ]
      refine wpAnyH_take (i := 13) (v := ?_) rfl (by kernel_rfl) (by kernel_rfl) (by kernel_rfl) (fun _ _ _ h => h) (Or.inl ⟨by kernel_rfl, ?_⟩) (by assumption) ?_
      rotate_left 1
      · intro w hSw
        (try dsimp only at hSw)
        go_simp
        try with_reducible rfl
      try simp only [Act.put, List.getElem_toArray, List.getElem_cons_zero, List.getElem_cons_succ, List.setIfInBounds_toArray, List.set_cons_zero, List.set_cons_succ]
      refine wpAnyH_take (i := 14) (v := ?_) rfl (by kernel_rfl) (by kernel_rfl) (by kernel_rfl) (fun _ _ _ h => h) (Or.inl ⟨by kernel_rfl, ?_⟩) (by assumption) ?_
      rotate_left 1
      · intro w hSw
        (try dsimp only at hSw)
        go_simp
        try with_reducible rfl
      try simp only [Act.put, List.getElem_toArray, List.getElem_cons_zero, List.getElem_cons_succ, List.setIfInBounds_toArray, List.set_cons_zero, List.set_cons_succ]
      refine wpAnyH_take (i := 15) (v := ?_) rfl (by kernel_rfl) (by kernel_rfl) (by kernel_rfl) (fun _ _ _ h => h) (Or.inl ⟨by kernel_rfl, ?_⟩) (by assumption) ?_
      rotate_left 1
      · intro w hSw
        (try dsimp only at hSw)
        go_simp
        try with_reducible rfl
      try simp only [Act.put, List.getElem_toArray, List.getElem_cons_zero, List.getElem_cons_succ, List.setIfInBounds_toArray, List.set_cons_zero, List.set_cons_succ]
      refine wpAnyH_take (i := 16) (v := ?_) rfl (by kernel_rfl) (by kernel_rfl) (by kernel_rfl) (fun _ _ _ h => h) (Or.inl ⟨by kernel_rfl, ?_⟩) (by assumption) ?_
      rotate_left 1
      · intro w hSw
        (try dsimp only at hSw)
        go_simp
        try with_reducible rfl
      try simp only [Act.put, List.getElem_toArray, List.getElem_cons_zero, List.getElem_cons_succ, List.setIfInBounds_toArray, List.set_cons_zero, List.set_cons_succ]
      refine wpAnyH_take (i := 17) (v := ?_) rfl (by kernel_rfl) (by kernel_rfl) (by kernel_rfl) (fun _ _ _ h => h) (Or.inl ⟨by kernel_rfl, ?_⟩) (by assumption) ?_
      rotate_left 1
      · intro w hSw
        (try dsimp only at hSw)
        go_simp
        try with_reducible rfl
      try simp only [Act.put, List.getElem_toArray, List.getElem_cons_zero, List.getElem_cons_succ, List.setIfInBounds_toArray, List.set_cons_zero, List.set_cons_succ]
      refine wpAnyH_take (i := 18) (v := ?_) rfl (by kernel_rfl) (by kernel_rfl) (by kernel_rfl) (fun _ _ _ h => h) (Or.inl ⟨by kernel_rfl, ?_⟩) (by assumption) ?_
      rotate_left 1
      · intro w hSw
        (try dsimp only at hSw)
        go_simp
        try with_reducible rfl
      try simp only [Act.put, List.getElem_toArray, List.getElem_cons_zero, List.getElem_cons_succ, List.setIfInBounds_toArray, List.set_cons_zero, List.set_cons_succ]
      refine wpAnyH_take (i := 19) (v := ?_) rfl (by kernel_rfl) (by kernel_rfl) (by kernel_rfl) (fun _ _ _ h => h) (Or.inl ⟨by kernel_rfl, ?_⟩) (by assumption) ?_
      rotate_left 1
      · intro w hSw
        (try dsimp only at hSw)
        go_simp
        try with_reducible rfl
      try simp only [Act.put, List.getElem_toArray, List.getElem_cons_zero, List.getElem_cons_succ, List.setIfInBounds_toArray, List.set_cons_zero, List.set_cons_succ]
      refine wpAnyH_take (i := 20) (v := ?_) rfl (by kernel_rfl) (by kernel_rfl) (by kernel_rfl) (fun _ _ _ h => h) (Or.inl ⟨by kernel_rfl, ?_⟩) (by assumption) ?_
      rotate_left 1
      · intro w hSw
        (try dsimp only at hSw)
        go_simp
        try with_reducible rfl
      try simp only [Act.put, List.getElem_toArray, List.getElem_cons_zero, List.getElem_cons_succ, List.setIfInBounds_toArray, List.set_cons_zero, List.set_cons_succ]
      refine wpAnyH_take (i := 21) (v := ?_) rfl (by kernel_rfl) (by kernel_rfl) (by kernel_rfl) (fun _ _ _ h => h) (Or.inl ⟨by kernel_rfl, ?_⟩) (by assumption) ?_
      rotate_left 1
      · intro w hSw
        (try dsimp only at hSw)
        go_simp
        try with_reducible rfl
      try simp only [Act.put, List.getElem_toArray, List.getElem_cons_zero, List.getElem_cons_succ, List.setIfInBounds_toArray, List.set_cons_zero, List.set_cons_succ]
      refine wpAnyH_take (i := 22) (v := ?_) rfl (by kernel_rfl) (by kernel_rfl) (by kernel_rfl) (fun _ _ _ h => h) (Or.inl ⟨by kernel_rfl, ?_⟩) (by assumption) ?_
      rotate_left 1
      · intro w hSw
        (try dsimp only at hSw)
        go_simp
        try with_reducible rfl
      try simp only [Act.put, List.getElem_toArray, List.getElem_cons_zero, List.getElem_cons_succ, List.setIfInBounds_toArray, List.set_cons_zero, List.set_cons_succ]
      refine wpAnyH_take (i := 23) (v := ?_) rfl (by kernel_rfl) (by kernel_rfl) (by kernel_rfl) (fun _ _ _ h => h) (Or.inl ⟨by kernel_rfl, ?_⟩) (by assumption) ?_
      rotate_left 1
      · intro w hSw
        (try dsimp only at hSw)
        go_simp
        try with_reducible rfl
      try simp only [Act.put, List.getElem_toArray, List.getElem_cons_zero, List.getElem_cons_succ, List.setIfInBounds_toArray, List.set_cons_zero, List.set_cons_succ]
      refine wpAnyH_take (i := 24) (v := ?_) rfl (by kernel_rfl) (by kernel_rfl) (by kernel_rfl) (fun _ _ _ h => h) (Or.inl ⟨by kernel_rfl, ?_⟩) (by assumption) ?_
      rotate_left 1
      · intro w hSw
        (try dsimp only at hSw)
        go_simp
        try with_reducible rfl
      try simp only [Act.put, List.getElem_toArray, List.getElem_cons_zero, List.getElem_cons_succ, List.setIfInBounds_toArray, List.set_cons_zero, List.set_cons_succ]
      refine wpAnyH_take (i := 25) (v := ?_) rfl (by kernel_rfl) (by kernel_rfl) (by kernel_rfl) (fun _ _ _ h => h) (Or.inl ⟨by kernel_rfl, ?_⟩) (by assumption) ?_
      rotate_left 1
      · intro w hSw
        (try dsimp only at hSw)
        go_simp
        try with_reducible rfl
      try simp only [Act.put, List.getElem_toArray, List.getElem_cons_zero, List.getElem_cons_succ, List.setIfInBounds_toArray, List.set_cons_zero, List.set_cons_succ]
      refine wpAnyH_take (i := 26) (v := ?_) rfl (by kernel_rfl) (by kernel_rfl) (by kernel_rfl) (fun _ _ _ h => h) (Or.inl ⟨by kernel_rfl, ?_⟩) (by assumption) ?_
      rotate_left 1
      · intro w hSw
        (try dsimp only at hSw)
        go_simp
        try with_reducible rfl
      try simp only [Act.put, List.getElem_toArray, List.getElem_cons_zero, List.getElem_cons_succ, List.setIfInBounds_toArray, List.set_cons_zero, List.set_cons_succ]
      refine wpAnyH_take (i := 27) (v := ?_) rfl (by kernel_rfl) (by kernel_rfl) (by kernel_rfl) (fun _ _ _ h => h) (Or.inl ⟨by kernel_rfl, ?_⟩) (by assumption) ?_
      rotate_left 1
      · intro w hSw
        (try dsimp only at hSw)
        go_simp
        try with_reducible rfl
      try simp only [Act.put, List.getElem_toArray, List.getElem_cons_zero, List.getElem_cons_succ, List.setIfInBounds_toArray, List.set_cons_zero, List.set_cons_succ]
      refine wpAnyH_take (i := 28) (v := ?_) rfl (by kernel_rfl) (by kernel_rfl) (by kernel_rfl) (fun _ _ _ h => h) (Or.inl ⟨by kernel_rfl, ?_⟩) (by assumption) ?_
      rotate_left 1
      · intro w hSw
        (try dsimp only at hSw)
        go_simp
        try with_reducible rfl
      try simp only [Act.put, List.getElem_toArray, List.getElem_cons_zero, List.getElem_cons_succ, List.setIfInBounds_toArray, List.set_cons_zero, List.set_cons_succ]
      refine wpAnyH_take (i := 29) (v := ?_) rfl (by kernel_rfl) (by kernel_rfl) (by kernel_rfl) (fun _ _ _ h => h) (Or.inl ⟨by kernel_rfl, ?_⟩) (by assumption) ?_
      rotate_left 1
      · intro w hSw
        (try dsimp only at hSw)
        go_simp
        try with_reducible rfl
      try simp only [Act.put, List.getElem_toArray, List.getElem_cons_zero, List.getElem_cons_succ, List.setIfInBounds_toArray, List.set_cons_zero, List.set_cons_succ]
      refine wpAnyH_take (i := 30) (v := ?_) rfl (by kernel_rfl) (by kernel_rfl) (by kernel_rfl) (fun _ _ _ h => h) (Or.inl ⟨by kernel_rfl, ?_⟩) (by assumption) ?_
      rotate_left 1
      · intro w hSw
        (try dsimp only at hSw)
        go_simp
        try with_reducible rfl
      try simp only [Act.put, List.getElem_toArray, List.getElem_cons_zero, List.getElem_cons_succ, List.setIfInBounds_toArray, List.set_cons_zero, List.set_cons_succ]
      refine wpAnyH_ready (rs := [1, 31]) (by kernel_rfl) (by simp) ?_
      refine AllReadyH.cons rfl (fun K hK => ?_) (AllReadyH.cons rfl (fun K hK => ?_) AllReadyH.nil)
      · go_simp
        refine hK.out _ _ (⟨y0, y1, y2, y3⟩) (fun hHeld => ?_)
        clear hK K
        try simp only [Act.put, List.getElem_toArray, List.getElem_cons_zero, List.getElem_cons_succ, List.setIfInBounds_toArray, List.set_cons_zero, List.set_cons_succ]
        refine wpAnyH_ready (rs := [31]) (by kernel_rfl) (by simp) ?_
        refine AllReadyH.cons rfl (fun K hK => ?_) AllReadyH.nil
        go_simp
        refine hK.out _ _ (⟨za, zb, zc, zd⟩) (fun hHeld => ?_)
        clear hK K
        try simp only [Act.put, List.getElem_toArray, List.getElem_cons_zero, List.getElem_cons_succ, List.setIfInBounds_toArray, List.set_cons_zero, List.set_cons_succ]
        refine wpAnyH_ready (rs := [32]) (by kernel_rfl) (by simp) ?_
        refine AllReadyH.cons rfl (fun K hK => ?_) AllReadyH.nil
        refine step_append_reads _ (Value.int .u32) (fun _ => rfl) 22 60 i60 _ 4 Tryd.underlying22 hi hz0 hz1 hz2 rfl rfl (.tmp 43) (.tmp 73) rfl (w.heap.size + 2) _ k (xs.take k) rfl hownd _ _ 1 _ [x] rfl hrdd (by unfold maxLen; omega) (by omega) (by simp; omega) ?_; intro A5 n5 c5 w5 hn5 hc5 hown5 hg5 hb5; have y0 := (hb5.cell (p := ad.add p) (by rw [block_of_add]; omega)).trans za; have y1 := (hb5.cell (p := ⟨ad.block, ad.off + (p + 1), none⟩) (by show ad.block < _; omega)).trans zb; have y2 := (hb5.cell (p := ⟨ad.block, ad.off + (p + 2), none⟩) (by show ad.block < _; omega)).trans zc; have y3 := (hb5.cell (p := ⟨ad.block, ad.off + (p + 3), none⟩) (by show ad.block < _; omega)).trans zd; have hR5 := Res.go hRd hb5 (by omega); have hRR5 := Res.go hRRd hb5 (by omega); have e0 := hR5.1; have e1 := hR5.2.1; have e2 := hR5.2.2.1; have e3 := hR5.2.2.2.1
        refine hK.out _ _ (⟨y0, y1, y2, y3⟩) (fun hHeld => ?_)
        clear hK K
        try simp only [Act.put, List.getElem_toArray, List.getElem_cons_zero, List.getElem_cons_succ, List.setIfInBounds_toArray, List.set_cons_zero, List.set_cons_succ]
        refine wpAnyH_take (i := 33) (v := ?_) rfl (by kernel_rfl) (by kernel_rfl) (by kernel_rfl) (fun _ _ _ h => h) (Or.inl ⟨by kernel_rfl, ?_⟩) (by assumption) ?_
        rotate_left 1
        · intro w hSw
          (try dsimp only at hSw)
          go_simp
          try with_reducible rfl
        try simp only [Act.put, List.getElem_toArray, List.getElem_cons_zero, List.getElem_cons_succ, List.setIfInBounds_toArray, List.set_cons_zero, List.set_cons_succ]
        refine wpAnyH_ready (rs := [34]) (by kernel_rfl) (by simp) ?_
        refine AllReadyH.cons rfl (fun K hK => ?_) AllReadyH.nil
        go_simp
        refine hK.out _ _ (by go_keep) (fun hHeld => ?_)
        clear hK K
        try simp only [Act.put, List.getElem_toArray, List.getElem_cons_zero, List.getElem_cons_succ, List.setIfInBounds_toArray, List.set_cons_zero, List.set_cons_succ]
        refine wpAnyH_done (by kernel_rfl) ?_ _
        go_wp2_with fail
        obtain rfl : n5 = k + 1 := hn5.out
        have hown6 := ownsRow_setCell_below hown5 (a := ⟨w.heap.size + 1, 1, none⟩) (by show w.heap.size + 1 < w.heap.size + 2; omega) (Value.slice A5 (k + 1) c5)
        rw [← hst.out] at hown6
        have hb6 : Below w.heap.size w w5 := hbd.trans (hb5.mono (by omega))
        exact ⟨⟨k + 1, A5, c5, by go_num, by omega, hR5.put1 _, hRR5.far (by omega) _, hown6, hc5.out, hb6.setCell (p := ⟨w.heap.size + 1, 1, none⟩) (by show w.heap.size ≤ w.heap.size + 1; omega) _, by have := hR5.2.2.2.2; simp; omega⟩, by simp [RowKit.intOf]; omega⟩
      · go_simp
        refine hK.out _ _ (⟨za, zb, zc, zd⟩) (fun hHeld => ?_)
        clear hK K
        try simp only [Act.put, List.getElem_toArray, List.getElem_cons_zero, List.getElem_cons_succ, List.setIfInBounds_toArray, List.set_cons_zero, List.set_cons_succ]
        refine wpAnyH_ready (rs := [1]) (by kernel_rfl) (by simp) ?_
        refine AllReadyH.cons rfl (fun K hK => ?_) AllReadyH.nil
        go_simp
        refine hK.out _ _ (⟨za, zb, zc, zd⟩) (fun hHeld => ?_)
        clear hK K
        try simp only [Act.put, List.getElem_toArray, List.getElem_cons_zero, List.getElem_cons_succ, List.setIfInBounds_toArray, List.set_cons_zero, List.set_cons_succ]
        refine wpAnyH_ready (rs := [32]) (by kernel_rfl) (by simp) ?_
        refine AllReadyH.cons rfl (fun K hK => ?_) AllReadyH.nil
        refine step_append_reads _ (Value.int .u32) (fun _ => rfl) 22 60 i60 _ 4 Tryd.underlying22 hi hz0 hz1 hz2 rfl rfl (.tmp 43) (.tmp 73) rfl (w.heap.size + 2) _ k (xs.take k) rfl hownd _ _ 1 _ [x] rfl hrdd (by unfold maxLen; omega) (by omega) (by simp; omega) ?_; intro A5 n5 c5 w5 hn5 hc5 hown5 hg5 hb5; have y0 := (hb5.cell (p := ad.add p) (by rw [block_of_add]; omega)).trans za; have y1 := (hb5.cell (p := ⟨ad.block, ad.off + (p + 1), none⟩) (by show ad.block < _; omega)).trans zb; have y2 := (hb5.cell (p := ⟨ad.block, ad.off + (p + 2), none⟩) (by show ad.block < _; omega)).trans zc; have y3 := (hb5.cell (p := ⟨ad.block, ad.off + (p + 3), none⟩) (by show ad.block < _; omega)).trans zd; have hR5 := Res.go hRd hb5 (by omega); have hRR5 := Res.go hRRd hb5 (by omega); have e0 := hR5.1; have e1 := hR5.2.1; have e2 := hR5.2.2.1; have e3 := hR5.2.2.2.1
        refine hK.out _ _ (⟨y0, y1, y2, y3⟩) (fun hHeld => ?_)
        clear hK K
        try simp only [Act.put, List.getElem_toArray, List.getElem_cons_zero, List.getElem_cons_succ, List.setIfInBounds_toArray, List.set_cons_zero, List.set_cons_succ]
        refine wpAnyH_take (i := 33) (v := ?_) rfl (by kernel_rfl) (by kernel_rfl) (by kernel_rfl) (fun _ _ _ h => h) (Or.inl ⟨by kernel_rfl, ?_⟩) (by assumption) ?_
        rotate_left 1
        · intro w hSw
          (try dsimp only at hSw)
          go_simp
          try with_reducible rfl
        try simp only [Act.put, List.getElem_toArray, List.getElem_cons_zero, List.getElem_cons_succ, List.setIfInBounds_toArray, List.set_cons_zero, List.set_cons_succ]
        refine wpAnyH_ready (rs := [34]) (by kernel_rfl) (by simp) ?_
        refine AllReadyH.cons rfl (fun K hK => ?_) AllReadyH.nil
        go_simp
        refine hK.out _ _ (by go_keep) (fun hHeld => ?_)
        clear hK K
        try simp only [Act.put, List.getElem_toArray, List.getElem_cons_zero, List.getElem_cons_succ, List.setIfInBounds_toArray, List.set_cons_zero, List.set_cons_succ]
        refine wpAnyH_done (by kernel_rfl) ?_ _
        go_wp2_with fail
        obtain rfl : n5 = k + 1 := hn5.out
        have hown6 := ownsRow_setCell_below hown5 (a := ⟨w.heap.size + 1, 1, none⟩) (by show w.heap.size + 1 < w.heap.size + 2; omega) (Value.slice A5 (k + 1) c5)
        rw [← hst.out] at hown6
        have hb6 : Below w.heap.size w w5 := hbd.trans (hb5.mono (by omega))
        exact ⟨⟨k + 1, A5, c5, by go_num, by omega, hR5.put1 _, hRR5.far (by omega) _, hown6, hc5.out, hb6.setCell (p := ⟨w.heap.size + 1, 1, none⟩) (by show w.heap.size ≤ w.heap.size + 1; omega) _, by have := hR5.2.2.2.2; simp; omega⟩, by simp [RowKit.intOf]; omega⟩
    · obtain rfl : k = n := by omega
      have hlt1 : ¬ (k : Int) < (k : Int) := by omega
      have hrd := Reads.of_own hown
      have hall : xs.take k = xs := List.take_of_length_le (by rw [hXL.out]; exact Nat.le_refl _)
      rw [hall] at hrd
      have hNV : NV wr A4 k c4 xs := ⟨hrd, hc4, hu, by omega⟩
      have q0 := hR.1
      have q1 := hR.2.1
      clear hall hrd
      go_wp2_with (go_at_call 23; (with_reducible refine (rmay_is false A4 k c4 xs _ hNV hM).mono ?_); rintro e w6 ⟨rfl, hb6⟩; have hR6 := hR.step hb6; have hRR6 := hRR.step hb6; have e0 := hR6.1; have e1 := hR6.2.1; have e2 := hRR6.2.2.1; have e3 := hRR6.2.2.2.1; have e4 := hRR6.1; have e5 := hRR6.2.1; have hv6 := hNV.below hb6)
      have hb7 := below_step hbr hb6 hbr.size
      refine bodyPost_ret (v := .tuple #[.agg #[.bool false, .slice A4 k c4], .int .i64 (1 + 4 * (k : Int)), .int .i64 0]) (by simp [results, Tryd.results31, go_sem, e4, e5]) rfl ⟨A4, c4, rfl, hv6.put hRR6 _ _, (hb7.setCell (p := ⟨w.heap.size, 0, none⟩) (Nat.le_refl _) _).setCell (p := ⟨w.heap.size, 1, none⟩) (Nat.le_refl _) _⟩
set_option linter.unusedSimpArgs false in
set_option maxRecDepth 100000 in
set_option maxHeartbeats 8000000 in
theorem runb_fnot (A : Option Addr) (L c n : Nat) (zs xs : List Int) (w : World) (h : Reads w w.heap.size 1 A L (zs.map (Value.int .u8))) (hn : n ≤ 64) (hL : 1 + 4 * n ≤ L) (hL2 : L ≤ 9223372036854775807) (h0 : zs.getD 0 0 = (n : Int)) (hxl : xs.length = n) (hu : U32 xs)
    (hz : Hid (∀ k, k < n → zs.getD (1 + 4 * k) 0 = xs.getD k 0 % 256 ∧ zs.getD (1 + 4 * k + 1) 0 = xs.getD k 0 / 256 % 256 ∧ zs.getD (1 + 4 * k + 2) 0 = xs.getD k 0 / 65536 % 256 ∧ zs.getD (1 + 4 * k + 3) 0 = xs.getD k 0 / 16777216))
    (hM : Hid ((if false then ((n : Int) == 0) else (((strip xs).length : Int) == (n : Int))) = false)) :
    Calls Tryd.prog 31 #[.slice A L c] w fun e w' => e = .returned (.tuple #[.agg #[.bool false, .slice none 0 0], .int .i64 0, .int .i64 13]) ∧ Below w.heap.size w w' := by
  obtain ⟨i60, hi, hz0, hz1, hz2⟩ := i60
  have hL1 : (0 : Int) < (L : Int) := by omega
  have hl0 : ((L : Int) == 0) = false := by simp only [beq_eq_false_iff_ne, ne_eq]; omega
  have hl3 : ¬ (L : Int) < 1 + 4 * (n : Int) := by omega
  have hn1 : ¬ (64 : Int) < (n : Int) := by omega
  have hn2 : ((n : Int) == 255) = false := by simp only [beq_eq_false_iff_ne, ne_eq]; omega
  obtain ⟨ad, rfl, hb, hc⟩ := ReadsB.get (h.alloc (Nat.le_refl _) (Obj.cells #[.bool false, .slice none 0 0] 24)) (show 0 < L by omega)
  rw [h0, show ad.add 0 = ad by unfold Addr.add; simp] at hc
  have hR0 : Res (w.alloc (Obj.cells #[.bool false, .slice none 0 0] 24)) w.heap.size false (.slice none 0 0) := ⟨by go_simp, by go_simp, by go_simp, by go_simp, by simp⟩
  have RR0 : Res ((w.alloc (Obj.cells #[.bool false, .slice none 0 0] 24)).alloc (Obj.cells #[.bool false, .slice none 0 0] 24)) w.heap.size false (.slice none 0 0) := ⟨by go_simp, by go_simp, by go_simp, by go_simp, by first | (simp; done) | (simp; omega)⟩
  have RO0 : Res ((w.alloc (Obj.cells #[.bool false, .slice none 0 0] 24)).alloc (Obj.cells #[.bool false, .slice none 0 0] 24)) (w.heap.size + 1) false (.slice none 0 0) := ⟨by go_simp, by go_simp, by go_simp, by go_simp, by first | (simp; done) | (simp; omega)⟩
  have hXL := Lib.hid hxl
  have HZ0 := Lib.hid h0
  clear hxl h0
  go_enter Tryd.func31, Tryd.ntmps31
  go_wp2_with fail
  go_loopw [7, 8] (fun v _ wr => ∃ (k : Nat) (A4 : Option Addr) (c4 : Nat), v = .int .i64 k ∧ k ≤ n ∧ Res wr (w.heap.size + 1) false (.slice A4 k c4) ∧ Res wr w.heap.size false (.slice none 0 0) ∧ wr.ownsRow (w.heap.size + 2) 60 1 (.slice A4 k c4) k ((xs.take k).map (Value.int .u32)) ∧ k ≤ c4 ∧ Below w.heap.size w wr ∧ w.heap.size + 2 ≤ wr.heap.size) (fun v _ _ => n - (RowKit.intOf v).toNat)
  case atStart => exact ⟨0, none, 0, rfl, Nat.zero_le _, RO0, RR0, own_nil _ _ _, Nat.le_refl _, below_al (below_al (Below.refl _ _) _) _, by first | (simp; done) | (simp; omega)⟩
  case round =>
    obtain ⟨k, A4, c4, rfl, hk, hR, hRR, hown, hc4, hbr, hsz⟩ := hrel
    clear hR0 hc RR0 RO0
    by_cases hlt : k < n
    · have hlt1 : (k : Int) < (n : Int) := by omega
      obtain ⟨p, hpp⟩ : ∃ p, p = 1 + 4 * k := ⟨_, rfl⟩
      have hpk : 1 + 4 * (k : Int) = (p : Int) := by omega
      have hpL : p + 3 < L := by omega
      obtain ⟨z0, z1, z2, z3⟩ := hz.out k hlt
      rw [← hpp] at z0 z1 z2 z3
      have hrb := h.below hbr
      obtain ⟨ad', ea, hab, y0⟩ := ReadsB.get hrb (show p < L by omega)
      obtain rfl : ad = ad' := by injection ea
      obtain ⟨ad', ea, _, y1⟩ := ReadsB.get hrb (show p + 1 < L by omega)
      obtain rfl : ad = ad' := by injection ea
      obtain ⟨ad', ea, _, y2⟩ := ReadsB.get hrb (show p + 2 < L by omega)
      obtain rfl : ad = ad' := by injection ea
      obtain ⟨ad', ea, _, y3⟩ := ReadsB.get hrb (show p + 3 < L by omega)
      obtain rfl : ad = ad' := by injection ea
      rw [z0] at y0
      rw [z1] at y1
      rw [z2] at y2
      rw [z3] at y3
      have hst := Lib.hid (take_snoc xs k (by rw [hXL.out]; exact hlt))
      have hx := hu.getD k
      unfold NT.W at hx
      have hx0 := hx.1
      have hx1 := hx.2
      clear hx z0 z1 z2 z3 hpp
      generalize xs.getD k 0 = x at *
      have t1 : ((p : Int) + 1).toNat = p + 1 := by omega
      have t2 : ((p : Int) + 2).toNat = p + 2 := by omega
      have t3 : ((p : Int) + 3).toNat = p + 3 := by omega
      have b0 : (p : Int) < (L : Int) := by omega
      have b1 : (p : Int) + 1 < (L : Int) := by omega
      have b2 : (p : Int) + 2 < (L : Int) := by omega
      have b3 : (p : Int) + 3 < (L : Int) := by omega
      have bz : (0 : Int) ≤ (p : Int) := by omega
      have q0 := hR.1
      have q1 := hR.2.1
      have q2 := hR.2.2.1
      have q3 := hR.2.2.2.1
      have v1 : IntKind.i64.wrap ((p : Int) + 1) = (p : Int) + 1 := IntWalk.i64_in _ (by omega)
      have v2 : IntKind.i64.wrap ((p : Int) + 2) = (p : Int) + 2 := IntWalk.i64_in _ (by omega)
      have v3 : IntKind.i64.wrap ((p : Int) + 3) = (p : Int) + 3 := IntWalk.i64_in _ (by omega)
      have c1 : (0 : Int) ≤ (p : Int) + 1 := by omega
      have c2 : (0 : Int) ≤ (p : Int) + 2 := by omega
      have c3 : (0 : Int) ≤ (p : Int) + 3 := by omega
      have n0 : w.heap.size + 1 ≠ (ad.add p).block := by rw [block_of_add]; omega
      have n1 : w.heap.size + 1 ≠ ad.block := by omega
      rw [add_pos ad p 1 (by omega)] at y1
      rw [add_pos ad p 2 (by omega)] at y2
      rw [add_pos ad p 3 (by omega)] at y3
      have hE := join4 x hx0 hx1
      have hownd : ((wr.alloc (Obj.cells #[Value.int .u32 x] 60)).drew).ownsRow (w.heap.size + 2) 60 1 (.slice A4 k c4) k ((xs.take k).map (Value.int .u32)) := hown.alloc (Obj.cells #[Value.int .u32 x] 60)
      have hrdd : Reads ((wr.alloc (Obj.cells #[Value.int .u32 x] 60)).drew) (wr.heap.size + 1) 1 (some ⟨wr.heap.size, 0, none⟩) 1 ([x].map (Value.int .u32)) := Reads.lit1 (Value.int .u32) wr x 60
      have hRd : Res ((wr.alloc (Obj.cells #[Value.int .u32 x] 60)).drew) (w.heap.size + 1) false (.slice A4 k c4) := hR.alloc _
      have hRRd : Res ((wr.alloc (Obj.cells #[Value.int .u32 x] 60)).drew) w.heap.size false (.slice none 0 0) := hRR.alloc _
      have za : ((wr.alloc (Obj.cells #[Value.int .u32 x] 60)).drew).cell? (ad.add p) = some (.int .u8 (x % 256)) := (World.cell?_alloc_lt wr _ _ (by rw [block_of_add]; omega)).trans y0
      have zb : ((wr.alloc (Obj.cells #[Value.int .u32 x] 60)).drew).cell? ⟨ad.block, ad.off + (p + 1), none⟩ = some (.int .u8 (x / 256 % 256)) := (World.cell?_alloc_lt wr _ _ (by show ad.block < _; omega)).trans y1
      have zc : ((wr.alloc (Obj.cells #[Value.int .u32 x] 60)).drew).cell? ⟨ad.block, ad.off + (p + 2), none⟩ = some (.int .u8 (x / 65536 % 256)) := (World.cell?_alloc_lt wr _ _ (by show ad.block < _; omega)).trans y2
      have zd : ((wr.alloc (Obj.cells #[Value.int .u32 x] 60)).drew).cell? ⟨ad.block, ad.off + (p + 3), none⟩ = some (.int .u8 (x / 16777216)) := (World.cell?_alloc_lt wr _ _ (by show ad.block < _; omega)).trans y3
      have d0 := hRd.1
      have d1 := hRd.2.1
      have hbd : Below w.heap.size w ((wr.alloc (Obj.cells #[Value.int .u32 x] 60)).drew) := (below_al hbr _).drew
      go_wp2_with fail
      refine wp_region_held_drew (S := fun w' => w'.cell? (ad.add p) = some (.int .u8 (x % 256)) ∧ w'.cell? ⟨ad.block, ad.off + (p + 1), none⟩ = some (.int .u8 (x / 256 % 256)) ∧ w'.cell? ⟨ad.block, ad.off + (p + 2), none⟩ = some (.int .u8 (x / 65536 % 256)) ∧ w'.cell? ⟨ad.block, ad.off + (p + 3), none⟩ = some (.int .u8 (x / 16777216))) (by kernel_rfl) ⟨y0, y1, y2, y3⟩ (fun hHeld => ?_)
      refine wpAnyH_take (i := 0) (v := ?_) rfl (by kernel_rfl) (by kernel_rfl) (by kernel_rfl) (fun _ _ _ h => h) (Or.inl ⟨by kernel_rfl, ?_⟩) (by assumption) ?_
      rotate_left 1
      · intro w hSw
        (try dsimp only at hSw)
        go_simp
        try with_reducible rfl
      try simp only [Act.put, List.getElem_toArray, List.getElem_cons_zero, List.getElem_cons_succ, List.setIfInBounds_toArray, List.set_cons_zero, List.set_cons_succ]
      refine wpAnyH_take (i := 2) (v := ?_) rfl (by kernel_rfl) (by kernel_rfl) (by kernel_rfl) (fun _ _ _ h => h) (Or.inl ⟨by kernel_rfl, ?_⟩) (by assumption) ?_
      rotate_left 1
      · intro w hSw
        (try dsimp only at hSw)
        go_simp
        try with_reducible rfl
      try simp only [Act.put, List.getElem_toArray, List.getElem_cons_zero, List.getElem_cons_succ, List.setIfInBounds_toArray, List.set_cons_zero, List.set_cons_succ]
      refine wpAnyH_take (i := 3) (v := ?_) rfl (by kernel_rfl) (by kernel_rfl) (by kernel_rfl) (fun _ _ _ h => h) (Or.inl ⟨by kernel_rfl, ?_⟩) (by assumption) ?_
      rotate_left 1
      · intro w hSw
        (try dsimp only at hSw)
        go_simp
        try with_reducible rfl
      try simp only [Act.put, List.getElem_toArray, List.getElem_cons_zero, List.getElem_cons_succ, List.setIfInBounds_toArray, List.set_cons_zero, List.set_cons_succ]
      refine wpAnyH_take (i := 4) (v := ?_) rfl (by kernel_rfl) (by kernel_rfl) (by kernel_rfl) (fun _ _ _ h => h) (Or.inl ⟨by kernel_rfl, ?_⟩) (by assumption) ?_
      rotate_left 1
      · intro w hSw
        (try dsimp only at hSw)
        go_simp
        try with_reducible rfl
      try simp only [Act.put, List.getElem_toArray, List.getElem_cons_zero, List.getElem_cons_succ, List.setIfInBounds_toArray, List.set_cons_zero, List.set_cons_succ]
      refine wpAnyH_take (i := 5) (v := ?_) rfl (by kernel_rfl) (by kernel_rfl) (by kernel_rfl) (fun _ _ _ h => h) (Or.inl ⟨by kernel_rfl, ?_⟩) (by assumption) ?_
      rotate_left 1
      · intro w hSw
        (try dsimp only at hSw)
        go_simp
        try with_reducible rfl
      try simp only [Act.put, List.getElem_toArray, List.getElem_cons_zero, List.getElem_cons_succ, List.setIfInBounds_toArray, List.set_cons_zero, List.set_cons_succ]
      refine wpAnyH_take (i := 6) (v := ?_) rfl (by kernel_rfl) (by kernel_rfl) (by kernel_rfl) (fun _ _ _ h => h) (Or.inl ⟨by kernel_rfl, ?_⟩) (by assumption) ?_
      rotate_left 1
      · intro w hSw
        (try dsimp only at hSw)
        go_simp
        try with_reducible rfl
      try simp only [Act.put, List.getElem_toArray, List.getElem_cons_zero, List.getElem_cons_succ, List.setIfInBounds_toArray, List.set_cons_zero, List.set_cons_succ]
      refine wpAnyH_take (i := 7) (v := ?_) rfl (by kernel_rfl) (by kernel_rfl) (by kernel_rfl) (fun _ _ _ h => h) (Or.inl ⟨by kernel_rfl, ?_⟩) (by assumption) ?_
      rotate_left 1
      · intro w hSw
        (try dsimp only at hSw)
        go_simp
        try with_reducible rfl
      try simp only [Act.put, List.getElem_toArray, List.getElem_cons_zero, List.getElem_cons_succ, List.setIfInBounds_toArray, List.set_cons_zero, List.set_cons_succ]
      refine wpAnyH_take (i := 8) (v := ?_) rfl (by kernel_rfl) (by kernel_rfl) (by kernel_rfl) (fun _ _ _ h => h) (Or.inl ⟨by kernel_rfl, ?_⟩) (by assumption) ?_
      rotate_left 1
      · intro w hSw
        (try dsimp only at hSw)
        go_simp
        try with_reducible rfl
      try simp only [Act.put, List.getElem_toArray, List.getElem_cons_zero, List.getElem_cons_succ, List.setIfInBounds_toArray, List.set_cons_zero, List.set_cons_succ]
      refine wpAnyH_take (i := 9) (v := ?_) rfl (by kernel_rfl) (by kernel_rfl) (by kernel_rfl) (fun _ _ _ h => h) (Or.inl ⟨by kernel_rfl, ?_⟩) (by assumption) ?_
      rotate_left 1
      · intro w hSw
        (try dsimp only at hSw)
        go_simp
        try with_reducible rfl
      try simp only [Act.put, List.getElem_toArray, List.getElem_cons_zero, List.getElem_cons_succ, List.setIfInBounds_toArray, List.set_cons_zero, List.set_cons_succ]
      refine wpAnyH_take (i := 10) (v := ?_) rfl (by kernel_rfl) (by kernel_rfl) (by kernel_rfl) (fun _ _ _ h => h) (Or.inl ⟨by kernel_rfl, ?_⟩) (by assumption) ?_
      rotate_left 1
      · intro w hSw
        (try dsimp only at hSw)
        go_simp
        try with_reducible rfl
      try simp only [Act.put, List.getElem_toArray, List.getElem_cons_zero, List.getElem_cons_succ, List.setIfInBounds_toArray, List.set_cons_zero, List.set_cons_succ]
      refine wpAnyH_take (i := 11) (v := ?_) rfl (by kernel_rfl) (by kernel_rfl) (by kernel_rfl) (fun _ _ _ h => h) (Or.inl ⟨by kernel_rfl, ?_⟩) (by assumption) ?_
      rotate_left 1
      · intro w hSw
        (try dsimp only at hSw)
        go_simp
        try with_reducible rfl
      try simp only [Act.put, List.getElem_toArray, List.getElem_cons_zero, List.getElem_cons_succ, List.setIfInBounds_toArray, List.set_cons_zero, List.set_cons_succ]
      refine wpAnyH_take (i := 12) (v := ?_) rfl (by kernel_rfl) (by kernel_rfl) (by kernel_rfl) (fun _ _ _ h => h) (Or.inl ⟨by kernel_rfl, ?_⟩) (by assumption) ?_
      rotate_left 1
      · intro w hSw
        (try dsimp only at hSw)
        go_simp
        try with_reducible rfl
      try simp only [Act.put, List.getElem_toArray, List.getElem_cons_zero, List.getElem_cons_succ, List.setIfInBounds_toArray, List.set_cons_zero, List.set_cons_succ]
      refine wpAnyH_take (i := 13) (v := ?_) rfl (by kernel_rfl) (by kernel_rfl) (by kernel_rfl) (fun _ _ _ h => h) (Or.inl ⟨by kernel_rfl, ?_⟩) (by assumption) ?_
      rotate_left 1
      · intro w hSw
        (try dsimp only at hSw)
        go_simp
        try with_reducible rfl
      try simp only [Act.put, List.getElem_toArray, List.getElem_cons_zero, List.getElem_cons_succ, List.setIfInBounds_toArray, List.set_cons_zero, List.set_cons_succ]
      refine wpAnyH_take (i := 14) (v := ?_) rfl (by kernel_rfl) (by kernel_rfl) (by kernel_rfl) (fun _ _ _ h => h) (Or.inl ⟨by kernel_rfl, ?_⟩) (by assumption) ?_
      rotate_left 1
      · intro w hSw
        (try dsimp only at hSw)
        go_simp
        try with_reducible rfl
      try simp only [Act.put, List.getElem_toArray, List.getElem_cons_zero, List.getElem_cons_succ, List.setIfInBounds_toArray, List.set_cons_zero, List.set_cons_succ]
      refine wpAnyH_take (i := 15) (v := ?_) rfl (by kernel_rfl) (by kernel_rfl) (by kernel_rfl) (fun _ _ _ h => h) (Or.inl ⟨by kernel_rfl, ?_⟩) (by assumption) ?_
      rotate_left 1
      · intro w hSw
        (try dsimp only at hSw)
        go_simp
        try with_reducible rfl
      try simp only [Act.put, List.getElem_toArray, List.getElem_cons_zero, List.getElem_cons_succ, List.setIfInBounds_toArray, List.set_cons_zero, List.set_cons_succ]
      refine wpAnyH_take (i := 16) (v := ?_) rfl (by kernel_rfl) (by kernel_rfl) (by kernel_rfl) (fun _ _ _ h => h) (Or.inl ⟨by kernel_rfl, ?_⟩) (by assumption) ?_
      rotate_left 1
      · intro w hSw
        (try dsimp only at hSw)
        go_simp
        try with_reducible rfl
      try simp only [Act.put, List.getElem_toArray, List.getElem_cons_zero, List.getElem_cons_succ, List.setIfInBounds_toArray, List.set_cons_zero, List.set_cons_succ]
      refine wpAnyH_take (i := 17) (v := ?_) rfl (by kernel_rfl) (by kernel_rfl) (by kernel_rfl) (fun _ _ _ h => h) (Or.inl ⟨by kernel_rfl, ?_⟩) (by assumption) ?_
      rotate_left 1
      · intro w hSw
        (try dsimp only at hSw)
        go_simp
        try with_reducible rfl
      try simp only [Act.put, List.getElem_toArray, List.getElem_cons_zero, List.getElem_cons_succ, List.setIfInBounds_toArray, List.set_cons_zero, List.set_cons_succ]
      refine wpAnyH_take (i := 18) (v := ?_) rfl (by kernel_rfl) (by kernel_rfl) (by kernel_rfl) (fun _ _ _ h => h) (Or.inl ⟨by kernel_rfl, ?_⟩) (by assumption) ?_
      rotate_left 1
      · intro w hSw
        (try dsimp only at hSw)
        go_simp
        try with_reducible rfl
      try simp only [Act.put, List.getElem_toArray, List.getElem_cons_zero, List.getElem_cons_succ, List.setIfInBounds_toArray, List.set_cons_zero, List.set_cons_succ]
      refine wpAnyH_take (i := 19) (v := ?_) rfl (by kernel_rfl) (by kernel_rfl) (by kernel_rfl) (fun _ _ _ h => h) (Or.inl ⟨by kernel_rfl, ?_⟩) (by assumption) ?_
      rotate_left 1
      · intro w hSw
        (try dsimp only at hSw)
        go_simp
        try with_reducible rfl
      try simp only [Act.put, List.getElem_toArray, List.getElem_cons_zero, List.getElem_cons_succ, List.setIfInBounds_toArray, List.set_cons_zero, List.set_cons_succ]
      refine wpAnyH_take (i := 20) (v := ?_) rfl (by kernel_rfl) (by kernel_rfl) (by kernel_rfl) (fun _ _ _ h => h) (Or.inl ⟨by kernel_rfl, ?_⟩) (by assumption) ?_
      rotate_left 1
      · intro w hSw
        (try dsimp only at hSw)
        go_simp
        try with_reducible rfl
      try simp only [Act.put, List.getElem_toArray, List.getElem_cons_zero, List.getElem_cons_succ, List.setIfInBounds_toArray, List.set_cons_zero, List.set_cons_succ]
      refine wpAnyH_take (i := 21) (v := ?_) rfl (by kernel_rfl) (by kernel_rfl) (by kernel_rfl) (fun _ _ _ h => h) (Or.inl ⟨by kernel_rfl, ?_⟩) (by assumption) ?_
      rotate_left 1
      · intro w hSw
        (try dsimp only at hSw)
        go_simp
        try with_reducible rfl
      try simp only [Act.put, List.getElem_toArray, List.getElem_cons_zero, List.getElem_cons_succ, List.setIfInBounds_toArray, List.set_cons_zero, List.set_cons_succ]
      refine wpAnyH_take (i := 22) (v := ?_) rfl (by kernel_rfl) (by kernel_rfl) (by kernel_rfl) (fun _ _ _ h => h) (Or.inl ⟨by kernel_rfl, ?_⟩) (by assumption) ?_
      rotate_left 1
      · intro w hSw
        (try dsimp only at hSw)
        go_simp
        try with_reducible rfl
      try simp only [Act.put, List.getElem_toArray, List.getElem_cons_zero, List.getElem_cons_succ, List.setIfInBounds_toArray, List.set_cons_zero, List.set_cons_succ]
      refine wpAnyH_take (i := 23) (v := ?_) rfl (by kernel_rfl) (by kernel_rfl) (by kernel_rfl) (fun _ _ _ h => h) (Or.inl ⟨by kernel_rfl, ?_⟩) (by assumption) ?_
      rotate_left 1
      · intro w hSw
        (try dsimp only at hSw)
        go_simp
        try with_reducible rfl
      try simp only [Act.put, List.getElem_toArray, List.getElem_cons_zero, List.getElem_cons_succ, List.setIfInBounds_toArray, List.set_cons_zero, List.set_cons_succ]
      refine wpAnyH_take (i := 24) (v := ?_) rfl (by kernel_rfl) (by kernel_rfl) (by kernel_rfl) (fun _ _ _ h => h) (Or.inl ⟨by kernel_rfl, ?_⟩) (by assumption) ?_
      rotate_left 1
      · intro w hSw
        (try dsimp only at hSw)
        go_simp
        try with_reducible rfl
      try simp only [Act.put, List.getElem_toArray, List.getElem_cons_zero, List.getElem_cons_succ, List.setIfInBounds_toArray, List.set_cons_zero, List.set_cons_succ]
      refine wpAnyH_take (i := 25) (v := ?_) rfl (by kernel_rfl) (by kernel_rfl) (by kernel_rfl) (fun _ _ _ h => h) (Or.inl ⟨by kernel_rfl, ?_⟩) (by assumption) ?_
      rotate_left 1
      · intro w hSw
        (try dsimp only at hSw)
        go_simp
        try with_reducible rfl
      try simp only [Act.put, List.getElem_toArray, List.getElem_cons_zero, List.getElem_cons_succ, List.setIfInBounds_toArray, List.set_cons_zero, List.set_cons_succ]
      refine wpAnyH_take (i := 26) (v := ?_) rfl (by kernel_rfl) (by kernel_rfl) (by kernel_rfl) (fun _ _ _ h => h) (Or.inl ⟨by kernel_rfl, ?_⟩) (by assumption) ?_
      rotate_left 1
      · intro w hSw
        (try dsimp only at hSw)
        go_simp
        try with_reducible rfl
      try simp only [Act.put, List.getElem_toArray, List.getElem_cons_zero, List.getElem_cons_succ, List.setIfInBounds_toArray, List.set_cons_zero, List.set_cons_succ]
      refine wpAnyH_take (i := 27) (v := ?_) rfl (by kernel_rfl) (by kernel_rfl) (by kernel_rfl) (fun _ _ _ h => h) (Or.inl ⟨by kernel_rfl, ?_⟩) (by assumption) ?_
      rotate_left 1
      · intro w hSw
        (try dsimp only at hSw)
        go_simp
        try with_reducible rfl
      try simp only [Act.put, List.getElem_toArray, List.getElem_cons_zero, List.getElem_cons_succ, List.setIfInBounds_toArray, List.set_cons_zero, List.set_cons_succ]
      refine wpAnyH_take (i := 28) (v := ?_) rfl (by kernel_rfl) (by kernel_rfl) (by kernel_rfl) (fun _ _ _ h => h) (Or.inl ⟨by kernel_rfl, ?_⟩) (by assumption) ?_
      rotate_left 1
      · intro w hSw
        (try dsimp only at hSw)
        go_simp
        try with_reducible rfl
      try simp only [Act.put, List.getElem_toArray, List.getElem_cons_zero, List.getElem_cons_succ, List.setIfInBounds_toArray, List.set_cons_zero, List.set_cons_succ]
      refine wpAnyH_take (i := 29) (v := ?_) rfl (by kernel_rfl) (by kernel_rfl) (by kernel_rfl) (fun _ _ _ h => h) (Or.inl ⟨by kernel_rfl, ?_⟩) (by assumption) ?_
      rotate_left 1
      · intro w hSw
        (try dsimp only at hSw)
        go_simp
        try with_reducible rfl
      try simp only [Act.put, List.getElem_toArray, List.getElem_cons_zero, List.getElem_cons_succ, List.setIfInBounds_toArray, List.set_cons_zero, List.set_cons_succ]
      refine wpAnyH_take (i := 30) (v := ?_) rfl (by kernel_rfl) (by kernel_rfl) (by kernel_rfl) (fun _ _ _ h => h) (Or.inl ⟨by kernel_rfl, ?_⟩) (by assumption) ?_
      rotate_left 1
      · intro w hSw
        (try dsimp only at hSw)
        go_simp
        try with_reducible rfl
      try simp only [Act.put, List.getElem_toArray, List.getElem_cons_zero, List.getElem_cons_succ, List.setIfInBounds_toArray, List.set_cons_zero, List.set_cons_succ]
      refine wpAnyH_ready (rs := [1, 31]) (by kernel_rfl) (by simp) ?_
      refine AllReadyH.cons rfl (fun K hK => ?_) (AllReadyH.cons rfl (fun K hK => ?_) AllReadyH.nil)
      · go_simp
        refine hK.out _ _ (⟨y0, y1, y2, y3⟩) (fun hHeld => ?_)
        clear hK K
        try simp only [Act.put, List.getElem_toArray, List.getElem_cons_zero, List.getElem_cons_succ, List.setIfInBounds_toArray, List.set_cons_zero, List.set_cons_succ]
        refine wpAnyH_ready (rs := [31]) (by kernel_rfl) (by simp) ?_
        refine AllReadyH.cons rfl (fun K hK => ?_) AllReadyH.nil
        go_simp
        refine hK.out _ _ (⟨za, zb, zc, zd⟩) (fun hHeld => ?_)
        clear hK K
        try simp only [Act.put, List.getElem_toArray, List.getElem_cons_zero, List.getElem_cons_succ, List.setIfInBounds_toArray, List.set_cons_zero, List.set_cons_succ]
        refine wpAnyH_ready (rs := [32]) (by kernel_rfl) (by simp) ?_
        refine AllReadyH.cons rfl (fun K hK => ?_) AllReadyH.nil
        refine step_append_reads _ (Value.int .u32) (fun _ => rfl) 22 60 i60 _ 4 Tryd.underlying22 hi hz0 hz1 hz2 rfl rfl (.tmp 43) (.tmp 73) rfl (w.heap.size + 2) _ k (xs.take k) rfl hownd _ _ 1 _ [x] rfl hrdd (by unfold maxLen; omega) (by omega) (by simp; omega) ?_; intro A5 n5 c5 w5 hn5 hc5 hown5 hg5 hb5; have y0 := (hb5.cell (p := ad.add p) (by rw [block_of_add]; omega)).trans za; have y1 := (hb5.cell (p := ⟨ad.block, ad.off + (p + 1), none⟩) (by show ad.block < _; omega)).trans zb; have y2 := (hb5.cell (p := ⟨ad.block, ad.off + (p + 2), none⟩) (by show ad.block < _; omega)).trans zc; have y3 := (hb5.cell (p := ⟨ad.block, ad.off + (p + 3), none⟩) (by show ad.block < _; omega)).trans zd; have hR5 := Res.go hRd hb5 (by omega); have hRR5 := Res.go hRRd hb5 (by omega); have e0 := hR5.1; have e1 := hR5.2.1; have e2 := hR5.2.2.1; have e3 := hR5.2.2.2.1
        refine hK.out _ _ (⟨y0, y1, y2, y3⟩) (fun hHeld => ?_)
        clear hK K
        try simp only [Act.put, List.getElem_toArray, List.getElem_cons_zero, List.getElem_cons_succ, List.setIfInBounds_toArray, List.set_cons_zero, List.set_cons_succ]
        refine wpAnyH_take (i := 33) (v := ?_) rfl (by kernel_rfl) (by kernel_rfl) (by kernel_rfl) (fun _ _ _ h => h) (Or.inl ⟨by kernel_rfl, ?_⟩) (by assumption) ?_
        rotate_left 1
        · intro w hSw
          (try dsimp only at hSw)
          go_simp
          try with_reducible rfl
        try simp only [Act.put, List.getElem_toArray, List.getElem_cons_zero, List.getElem_cons_succ, List.setIfInBounds_toArray, List.set_cons_zero, List.set_cons_succ]
        refine wpAnyH_ready (rs := [34]) (by kernel_rfl) (by simp) ?_
        refine AllReadyH.cons rfl (fun K hK => ?_) AllReadyH.nil
        go_simp
        refine hK.out _ _ (by go_keep) (fun hHeld => ?_)
        clear hK K
        try simp only [Act.put, List.getElem_toArray, List.getElem_cons_zero, List.getElem_cons_succ, List.setIfInBounds_toArray, List.set_cons_zero, List.set_cons_succ]
        refine wpAnyH_done (by kernel_rfl) ?_ _
        go_wp2_with fail
        obtain rfl : n5 = k + 1 := hn5.out
        have hown6 := ownsRow_setCell_below hown5 (a := ⟨w.heap.size + 1, 1, none⟩) (by show w.heap.size + 1 < w.heap.size + 2; omega) (Value.slice A5 (k + 1) c5)
        rw [← hst.out] at hown6
        have hb6 : Below w.heap.size w w5 := hbd.trans (hb5.mono (by omega))
        exact ⟨⟨k + 1, A5, c5, by go_num, by omega, hR5.put1 _, hRR5.far (by omega) _, hown6, hc5.out, hb6.setCell (p := ⟨w.heap.size + 1, 1, none⟩) (by show w.heap.size ≤ w.heap.size + 1; omega) _, by have := hR5.2.2.2.2; simp; omega⟩, by simp [RowKit.intOf]; omega⟩
      · go_simp
        refine hK.out _ _ (⟨za, zb, zc, zd⟩) (fun hHeld => ?_)
        clear hK K
        try simp only [Act.put, List.getElem_toArray, List.getElem_cons_zero, List.getElem_cons_succ, List.setIfInBounds_toArray, List.set_cons_zero, List.set_cons_succ]
        refine wpAnyH_ready (rs := [1]) (by kernel_rfl) (by simp) ?_
        refine AllReadyH.cons rfl (fun K hK => ?_) AllReadyH.nil
        go_simp
        refine hK.out _ _ (⟨za, zb, zc, zd⟩) (fun hHeld => ?_)
        clear hK K
        try simp only [Act.put, List.getElem_toArray, List.getElem_cons_zero, List.getElem_cons_succ, List.setIfInBounds_toArray, List.set_cons_zero, List.set_cons_succ]
        refine wpAnyH_ready (rs := [32]) (by kernel_rfl) (by simp) ?_
        refine AllReadyH.cons rfl (fun K hK => ?_) AllReadyH.nil
        refine step_append_reads _ (Value.int .u32) (fun _ => rfl) 22 60 i60 _ 4 Tryd.underlying22 hi hz0 hz1 hz2 rfl rfl (.tmp 43) (.tmp 73) rfl (w.heap.size + 2) _ k (xs.take k) rfl hownd _ _ 1 _ [x] rfl hrdd (by unfold maxLen; omega) (by omega) (by simp; omega) ?_; intro A5 n5 c5 w5 hn5 hc5 hown5 hg5 hb5; have y0 := (hb5.cell (p := ad.add p) (by rw [block_of_add]; omega)).trans za; have y1 := (hb5.cell (p := ⟨ad.block, ad.off + (p + 1), none⟩) (by show ad.block < _; omega)).trans zb; have y2 := (hb5.cell (p := ⟨ad.block, ad.off + (p + 2), none⟩) (by show ad.block < _; omega)).trans zc; have y3 := (hb5.cell (p := ⟨ad.block, ad.off + (p + 3), none⟩) (by show ad.block < _; omega)).trans zd; have hR5 := Res.go hRd hb5 (by omega); have hRR5 := Res.go hRRd hb5 (by omega); have e0 := hR5.1; have e1 := hR5.2.1; have e2 := hR5.2.2.1; have e3 := hR5.2.2.2.1
        refine hK.out _ _ (⟨y0, y1, y2, y3⟩) (fun hHeld => ?_)
        clear hK K
        try simp only [Act.put, List.getElem_toArray, List.getElem_cons_zero, List.getElem_cons_succ, List.setIfInBounds_toArray, List.set_cons_zero, List.set_cons_succ]
        refine wpAnyH_take (i := 33) (v := ?_) rfl (by kernel_rfl) (by kernel_rfl) (by kernel_rfl) (fun _ _ _ h => h) (Or.inl ⟨by kernel_rfl, ?_⟩) (by assumption) ?_
        rotate_left 1
        · intro w hSw
          (try dsimp only at hSw)
          go_simp
          try with_reducible rfl
        try simp only [Act.put, List.getElem_toArray, List.getElem_cons_zero, List.getElem_cons_succ, List.setIfInBounds_toArray, List.set_cons_zero, List.set_cons_succ]
        refine wpAnyH_ready (rs := [34]) (by kernel_rfl) (by simp) ?_
        refine AllReadyH.cons rfl (fun K hK => ?_) AllReadyH.nil
        go_simp
        refine hK.out _ _ (by go_keep) (fun hHeld => ?_)
        clear hK K
        try simp only [Act.put, List.getElem_toArray, List.getElem_cons_zero, List.getElem_cons_succ, List.setIfInBounds_toArray, List.set_cons_zero, List.set_cons_succ]
        refine wpAnyH_done (by kernel_rfl) ?_ _
        go_wp2_with fail
        obtain rfl : n5 = k + 1 := hn5.out
        have hown6 := ownsRow_setCell_below hown5 (a := ⟨w.heap.size + 1, 1, none⟩) (by show w.heap.size + 1 < w.heap.size + 2; omega) (Value.slice A5 (k + 1) c5)
        rw [← hst.out] at hown6
        have hb6 : Below w.heap.size w w5 := hbd.trans (hb5.mono (by omega))
        exact ⟨⟨k + 1, A5, c5, by go_num, by omega, hR5.put1 _, hRR5.far (by omega) _, hown6, hc5.out, hb6.setCell (p := ⟨w.heap.size + 1, 1, none⟩) (by show w.heap.size ≤ w.heap.size + 1; omega) _, by have := hR5.2.2.2.2; simp; omega⟩, by simp [RowKit.intOf]; omega⟩
    · obtain rfl : k = n := by omega
      have hlt1 : ¬ (k : Int) < (k : Int) := by omega
      have hrd := Reads.of_own hown
      have hall : xs.take k = xs := List.take_of_length_le (by rw [hXL.out]; exact Nat.le_refl _)
      rw [hall] at hrd
      have hNV : NV wr A4 k c4 xs := ⟨hrd, hc4, hu, by omega⟩
      have q0 := hR.1
      have q1 := hR.2.1
      clear hall hrd
      go_wp2_with (go_at_call 23; (with_reducible refine (rmay_is false A4 k c4 xs _ hNV hM).mono ?_); rintro e w6 ⟨rfl, hb6⟩; have hR6 := hR.step hb6; have hRR6 := hRR.step hb6; have e0 := hR6.1; have e1 := hR6.2.1; have e2 := hRR6.2.2.1; have e3 := hRR6.2.2.2.1; have e4 := hRR6.1; have e5 := hRR6.2.1; have hv6 := hNV.below hb6)
      have hb7 := below_step hbr hb6 hbr.size
      exact bodyPost_ret (v := .tuple #[.agg #[.bool false, .slice none 0 0], .int .i64 0, .int .i64 13]) (by simp [results, Tryd.results31, go_sem, e4, e5]) rfl ⟨rfl, (hb7.setCell (p := ⟨w.heap.size, 0, none⟩) (Nat.le_refl _) _).setCell (p := ⟨w.heap.size, 1, none⟩) (Nat.le_refl _) _⟩
end Go.Proofs.YtdpheomokeikbaaDoor
