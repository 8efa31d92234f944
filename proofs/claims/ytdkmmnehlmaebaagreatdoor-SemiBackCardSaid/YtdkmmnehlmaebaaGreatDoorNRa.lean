
/- The document's own clean: what counts of a number. Conditions: the digits can be read. -/
import Derived.Test.YtdkmmnehlmaebaaGreatDoorNWz
import Derived.Test.YtdkmmnehlmaebaaGreatDoorNOr
namespace Go.Proofs.YtdkmmnehlmaebaaGreatDoor.Na
open Go.RowKit Go.NT Go.Lib

/-- Nil, or made at block B or later. -/
def Fresh (B : Nat) (A : Option Addr) : Prop := ∀ ad, A = some ad → B ≤ ad.block
theorem Fresh.nil (B : Nat) : Fresh B none := fun _ h => by cases h
theorem Fresh.mono {B B' : Nat} {A : Option Addr} (h : Fresh B A) (hb : B' ≤ B) : Fresh B' A := fun ad e => Nat.le_trans hb (h ad e)
theorem NV.set {w : World} {A : Option Addr} {m c g : Nat} {rs : List Int} (h : NV w A m c rs) (hf : Fresh (g + 1) A) (k : Nat) (u : Value) : NV (w.setCell ⟨g, k, none⟩ u) A m c rs := by
  refine ⟨⟨h.1.1, fun h0 => ?_⟩, h.2⟩
  obtain ⟨ad, e, hb, hc⟩ := h.1.2 h0
  refine ⟨ad, e, by simpa using hb, fun j v hv => ?_⟩
  rw [World.cell?_setCell_other w _ _ u (fun e2 => ?_)]
  · exact hc j v hv
  · have h1 := hf ad e
    have h2 : (ad.add j).block = g := by rw [← e2]
    rw [block_of_add] at h2
    omega
/-- A result variable's two cells, at block g. -/
def Res (w : World) (g : Nat) (t : Bool) (v : Value) : Prop :=
  w.cell? ⟨g, 0, none⟩ = some (.bool t) ∧ w.cell? ⟨g, 1, none⟩ = some v ∧ w.frozen? ⟨g, 0, none⟩ = false ∧ w.frozen? ⟨g, 1, none⟩ = false ∧ g < w.heap.size
theorem Res.go {w w' : World} {g B : Nat} {t : Bool} {v : Value} (h : Res w g t v) (hb : Below B w w') (hB : g < B) : Res w' g t v :=
  ⟨(hb.cell (p := ⟨g, 0, none⟩) hB).trans h.1, (hb.cell (p := ⟨g, 1, none⟩) hB).trans h.2.1, (hb.frozen (p := ⟨g, 0, none⟩) hB).trans h.2.2.1, (hb.frozen (p := ⟨g, 1, none⟩) hB).trans h.2.2.2.1, Nat.lt_of_lt_of_le h.2.2.2.2 hb.size⟩
/-- What the document's clean leaves of digits. -/
def cleanD (b : Bool) (xs : List Int) : List Int := if b then [] else strip xs
theorem cleanD_norm (b : Bool) (xs : List Int) : Norm (cleanD b xs) := by
  cases b
  · exact Norm.strip xs
  · exact Norm.nil
theorem mean_cleanD (b : Bool) (xs : List Int) : mean b (cleanD b xs) = mean b xs := by
  cases b
  · show some (val (strip xs)) = some (val xs); rw [val_strip]
  · rfl
/-- What the document's clean answers. -/
def CR (w w' : World) (e : Ending) (b : Bool) (xs : List Int) (N : Nat) : Prop :=
  ∃ (A : Option Addr) (n c : Nat), e = .returned (.agg #[.bool b, .slice A n c]) ∧ NV w' A n c (cleanD b xs) ∧ Hid (Fresh w.heap.size A) ∧ Hid (n ≤ N) ∧ Below w.heap.size w w'

set_option maxRecDepth 100000 in
set_option maxHeartbeats 1000000 in
theorem clean_fin (A : Option Addr) (n c : Nat) (xs : List Int) (w : World) (hx : NV w A n c xs) (hn : n ≤ 35184372088832) :
    Calls Tryz.prog 68 #[.agg #[.bool false, .slice A n c]] w fun e w' => CR w w' e false xs n := by
  obtain ⟨i60, hi, hz0, hz1, hz2⟩ := i60
  obtain ⟨h1, h2, h3, h4⟩ := hx
  have hl := h1.len
  have HL := Lib.hid hl
  clear hl
  have hb2 : ∀ o o' : Obj, Below w.heap.size w ((w.alloc o).alloc o') := fun o o' => below_al (below_al (Below.refl _ _) o) o'
  have hmade : ∀ o o' : Obj, (((w.alloc o).alloc o').alloc (.cells #[] 67)).ownsRow (w.heap.size + 2) 67 1 (.slice (some ⟨w.heap.size + 1 + 1, 0, none⟩) 0 0) 0 (([] : List Int).map (Value.int .u32)) := fun o o' => by
    have := World.ownsRow_made (base := w.heap.size + 2) (e := 67) (size := 1) ((w.alloc o).alloc o') #[] 0 (by simp) (Nat.zero_le _) rfl
    rwa [show ((w.alloc o).alloc o').heap.size = w.heap.size + 1 + 1 by simp] at this
  go_enter Tryz.func68, Tryz.ntmps68
  go_wp2_with (at_builtin; refine wpList_append_reads _ (Value.int .u32) (fun _ => rfl) 22 67 i60 _ 4 Tryz.underlying22 hi hz0 hz1 hz2 rfl rfl (.tmp 7) (.tmp 9) rfl (w.heap.size + 2) _ 0 [] rfl (hmade _ _) _ _ n c xs rfl (h1.al3 _ _ _) (by unfold maxLen; omega) (by omega) (by simp) ?_; intro A1 n1 c1 w1 hn1 hc1 hown1 hb1)
  obtain rfl : n1 = n := by have := hn1.out; omega
  rw [List.nil_append] at hown1
  have hR : Res w1 (w.heap.size + 1) false (.slice none 0 0) := Res.go (w := ((w.alloc (Obj.cells #[Value.bool false, Value.slice A n1 c] 24)).alloc (Obj.cells #[Value.bool false, Value.slice none 0 0] 24)).alloc (Obj.cells #[] 67)) ⟨by go_simp, by go_simp, by go_simp, by go_simp, by simp⟩ hb1 (by omega)
  have hF : Hid (Fresh (w.heap.size + 1 + 1) A1) := Lib.hid (fun ad e => by
    subst e
    rcases hown1.2 with ⟨h, _⟩ | ⟨g, _, _, h, hb, _⟩
    · injection h with h; cases h
    · injection h with h
      injection h with h
      subst h
      exact hb)
  have hbw : Below w.heap.size w w1 := below_step (below_al3 w _ _ _) hb1 (by omega)
  have hr := Reads.of_own hown1
  have hcc := hc1.out
  clear hb1 hmade hb2 hown1 h1 hc1 hn1
  obtain ⟨g0, g1, g2, g3, g4⟩ := hR
  go_loop [3] (fun v => ∃ m : Nat, m ≤ n1 ∧ v = .slice A1 m c1 ∧ Hid (strip (xs.take m) = strip xs)) (fun v => lenV v)
  case atStart => exact ⟨n1, Nat.le_refl _, rfl, Lib.hid (by rw [List.take_of_length_le (by rw [HL.out]; omega)])⟩
  case round =>
    obtain ⟨m, hm, rfl, hp⟩ := hrel
    have hend : ∀ hl : (strip xs).length = m, Reads w1 w1.heap.size 1 A1 m ((strip xs).map (Value.int .u32)) := fun hl => by
      have := whole_reads hr
      rwa [hl] at this
    have hE := Lib.hid hend
    clear hend
    by_cases h0 : 0 < m
    · obtain ⟨ad, rfl, hb, hcell⟩ := hr.get (show m - 1 < n1 by omega)
      have hmc : m - 1 ≤ c1 := by omega
      have hz := Lib.hid (strip_take_z (xs := xs) h0 (by rw [HL.out]; exact hm))
      have hnz := Lib.hid (strip_take_nz (xs := xs) h0 (by rw [HL.out]; exact hm))
      generalize xs.getD (m - 1) 0 = x at *
      by_cases hx : x = 0
      · subst hx
        go_wp2_with fail
        exact ⟨⟨m - 1, by omega, rfl, Lib.hid ((hz.out rfl).symm.trans hp.out)⟩, by show m - 1 < m; omega⟩
      · have hx2 : (x == 0) = false := by simpa using hx
        have hq := Lib.hid ((hnz.out hx).symm.trans hp.out)
        clear hx
        go_wp2_with fail
        have hlen : (strip xs).length = m := by rw [← hq.out, List.length_take, HL.out]; omega
        exact bodyPost_ret (v := .agg #[.bool false, .slice (some ad) m c1]) (by simp [results, Tryz.results68, go_sem, g0, g1]) rfl
          ⟨some ad, m, c1, rfl, NV.set (NV.set ⟨hE.out hlen, by omega, h3.strip, by omega⟩ hF.out 0 _) hF.out 1 _, Lib.hid (hF.out.mono (by omega)), Lib.hid hm, (hbw.setCell (p := ⟨w.heap.size + 1, 0, none⟩) (by show w.heap.size ≤ w.heap.size + 1; omega) _).setCell (p := ⟨w.heap.size + 1, 1, none⟩) (by show w.heap.size ≤ w.heap.size + 1; omega) _⟩
    · obtain rfl : m = 0 := by omega
      go_wp2_with fail
      have hlen : (strip xs).length = 0 := by rw [← hp.out]; rfl
      exact bodyPost_ret (v := .agg #[.bool false, .slice A1 0 c1]) (by simp [results, Tryz.results68, go_sem, g0, g1]) rfl
          ⟨A1, 0, c1, rfl, NV.set (NV.set ⟨hE.out hlen, by omega, h3.strip, by omega⟩ hF.out 0 _) hF.out 1 _, Lib.hid (hF.out.mono (by omega)), Lib.hid hm, (hbw.setCell (p := ⟨w.heap.size + 1, 0, none⟩) (by show w.heap.size ≤ w.heap.size + 1; omega) _).setCell (p := ⟨w.heap.size + 1, 1, none⟩) (by show w.heap.size ≤ w.heap.size + 1; omega) _⟩
theorem clean_any (b : Bool) (A : Option Addr) (n c : Nat) (xs : List Int) (w : World) (hx : NV w A n c xs) (hn : n ≤ 35184372088832) :
    Calls Tryz.prog 68 #[.agg #[.bool b, .slice A n c]] w fun e w' => CR w w' e b xs n := by
  cases b
  · exact clean_fin A n c xs w hx hn
  · go_enter Tryz.func68, Tryz.ntmps68
    go_wp2_with fail
    exact bodyPost_ret (v := .agg #[.bool true, .slice none 0 0]) (by simp [results, Tryz.results68, go_sem]) rfl
      ⟨none, 0, 0, rfl, NV.nil _, Lib.hid (Fresh.nil _), Lib.hid (Nat.zero_le _), below_al (below_al (Below.refl _ _) _) _⟩
end Go.Proofs.YtdkmmnehlmaebaaGreatDoor.Na
