import Derived.Test.YtpaehicfndkliaaGreatDoorDf
import Derived.Deep.RegionHeld3
import Derived.Test.YtpaehicfndkliaaGreatDoorFe
import Derived.Test.YtpaehicfndkliaaGreatDoorDh
import Derived.Test.YtpaehicfndkliaaGreatDoorDo

/- The walks of the document's 'row', 'tail'. Condition: the paths can be read. -/
namespace Go.Proofs.YtpaehicfndkliaaGreatDoor.De
open Go.RowKit Go.Lib Na Go.PN Pa

set_option maxRecDepth 100000 in
set_option maxHeartbeats 4000000 in
theorem rrow_nil (K : Int) (A : Option Addr) (c : Nat) (X : List Nat) (w : World) :
    Calls Tryz.prog 81 #[.int .i64 K, .slice A 0 c] w (MadeP w X epsF) := by
  have HB := Lib.hid (show ∀ o1 : Obj, Below w.heap.size w (w.alloc o1) from fun o1 => (Below.refl _ w).alloc (by simp) o1)
  go_enter Tryz.func81, Tryz.ntmps81
  go_wp2_with fail
  exact bodyPost_ret (v := .agg #[.int .i64 1, .string ⟨#[]⟩, .slice none 0 0, .int .i64 0, .int .i64 0]) (by simp [results, Tryz.results81, go_sem]) rfl ⟨⟨1, ⟨#[]⟩, none, 0, 0, 0, .nil⟩, rfl, rfl, ⟨Nat.le_refl _, Nat.zero_le _, trivial⟩, HB.out _⟩
set_option maxRecDepth 100000 in
set_option maxHeartbeats 4000000 in
theorem rrow_one (K : Int) (b0 o0 : Nat) (c : Nat) (k : Int) (l : ByteArray) (d : Fo) (mn mx : Int) (X : List Nat) (w : World) (h1 : 1 ≤ c) (hf : At w X (.cons k l d mn mx .nil) (some ⟨b0, o0, none⟩)) :
    Calls Tryz.prog 81 #[.int .i64 K, .slice (some ⟨b0, o0, none⟩) 1 c] w (MadeP w X (.cons k l d mn mx .nil)) := by
  have HB := Lib.hid (show ∀ o1 : Obj, Below w.heap.size w (w.alloc o1) from fun o1 => (Below.refl _ w).alloc (by simp) o1)
  obtain ⟨b, o, K1, c1, ea, hx0, hcel, hc3, hc4, hat1, _⟩ := hf
  injection ea with ea
  injection ea with ea1 ea2
  subst ea1 ea2
  obtain ⟨e0, e1, e2, e3, e4⟩ := hcel
  have hb0 : b0 < w.heap.size := cell_lt e0
  have HO := Lib.hid (show ∀ o1 : Obj, Nd.ok (w.alloc o1) X ⟨k, l, K1, c1, mn, mx, d⟩ from fun o1 => Nd.ok.al ⟨hc3, hc4, hat1⟩ o1)
  clear hat1 hx0
  go_enter Tryz.func81, Tryz.ntmps81
  go_wp2_with fail
  exact bodyPost_ret (v := (⟨k, l, K1, c1, mn, mx, d⟩ : Nd).v) (by simp [results, Tryz.results81, go_sem]) rfl ⟨⟨k, l, K1, c1, mn, mx, d⟩, rfl, rfl, HO.out _, HB.out _⟩
abbrev cells10 (k : Int) (l : ByteArray) (A : Option Addr) (n c : Nat) (mn mx k2 : Int) (l2 : ByteArray) (A2 : Option Addr) (n2 c2 : Nat) (mn2 mx2 : Int) : Array Value := #[.int .i64 k, .string l, .slice A n c, .int .i64 mn, .int .i64 mx, .int .i64 k2, .string l2, .slice A2 n2 c2, .int .i64 mn2, .int .i64 mx2]
/-- Two paths that have just been laid as a row. -/
theorem ok_two {V : World} {X : List Nat} (K : Int) {k1 : Int} {l1 : ByteArray} {A1 : Option Addr} {c1 : Nat} {mn1 mx1 : Int} {d1 : Fo} {k2 : Int} {l2 : ByteArray} {A2 : Option Addr} {c2 : Nat} {mn2 mx2 : Int} {d2 : Fo}
    (ha : Nd.ok V X ⟨k1, l1, A1, c1, mn1, mx1, d1⟩) (hb : Nd.ok V X ⟨k2, l2, A2, c2, mn2, mx2, d2⟩) (hX : ∀ x ∈ X, x < V.heap.size) {g : Nat} (hg : V.heap.size = g) :
    Nd.ok (V.alloc (.cells (cells10 k1 l1 A1 d1.len c1 mn1 mx1 k2 l2 A2 d2.len c2 mn2 mx2) 24)) X ⟨K, ⟨#[]⟩, some ⟨g, 0, none⟩, 2, 0, 0, .cons k1 l1 d1 mn1 mx1 (.cons k2 l2 d2 mn2 mx2 .nil)⟩ :=
  hg ▸ ⟨Nat.le_refl _, Nat.le_of_ble_eq_true rfl, at_new 24 ((Csl.one ha).app (Csl.one hb)) hX⟩
set_option maxRecDepth 100000 in
set_option maxHeartbeats 8000000 in
theorem rrow_n (n : Nat) : ∀ (K : Int) (A : Option Addr) (c : Nat) (f : Fo) (X : List Nat) (w : World), f.len ≤ n → At w X f A → f.len ≤ c → c ≤ 9223372036854775807 → (∀ x ∈ X, x < w.heap.size) →
    Calls Tryz.prog 81 #[.int .i64 K, .slice A f.len c] w (MadeP w X (rowF K f)) := by
  induction n with
  | zero =>
    intro K A c f X w hn
    rw [nil_of (Nat.le_zero.1 hn)]
    intros
    exact rrow_nil K A c X w
  | succ n ih =>
    intro K A c f X w hn hf hc hc2 hX
    cases f with
    | nil => exact rrow_nil K A c X w
    | cons k l d mn mx r =>
      by_cases hr : r.len = 0
      · rw [nil_of hr] at hf hc ⊢
        obtain ⟨b0, o0, rfl⟩ := at_shape hf (Nat.le_refl _)
        rw [rowF_one rfl]
        exact rrow_one K b0 o0 c k l d mn mx X w hc hf
      · have HK := Lib.hid (rowF_cons (K := K) (x := .cons k l d mn mx .nil) (r := r) rfl (by omega))
        rw [show Fo.cons k l d mn mx r = (Fo.cons k l d mn mx .nil).app r from rfl, HK.out]
        obtain ⟨b0, o0, K1, c1, rfl, hx0, hcel, hc3, hc4, hat1, hatr⟩ := hf
        have hcs := hcel
        obtain ⟨e0, e1, e2, e3, e4⟩ := hcel
        have hb0 : b0 < w.heap.size := cell_lt e0
        have hY : ∀ y, y ∈ w.heap.size :: X → y ∈ X ∨ w.heap.size ≤ y := fun y hy => by
          rcases List.mem_cons.1 hy with rfl | hy
          · exact Or.inr (Nat.le_refl _)
          · exact Or.inl hy
        have HXX := Lib.hid (show ∀ (w1 : World), w.heap.size + 1 ≤ w1.heap.size → ∀ x ∈ w.heap.size :: X, x < w1.heap.size from fun w1 h x hx => by
          rcases List.mem_cons.1 hx with rfl | hx
          · omega
          · have := hX x hx; omega)
        simp only [Fo.app, Fo.len] at hn hc ⊢
        have HC := Lib.hid (fun (w1 : World) (hb : Below w.heap.size w w1) (hz : w.heap.size + 1 ≤ w1.heap.size) => ih K (some ⟨b0, o0 + 5, none⟩) (c - 1) r (w.heap.size :: X) w1 (by omega) ((hatr.grow hY).below hb) (by omega) (by omega) (HXX.out w1 hz))
        have HA := Lib.hid (fun (w1 : World) (hb : Below w.heap.size w w1) => (show Nd.ok w1 (w.heap.size :: X) ⟨k, l, K1, c1, mn, mx, d⟩ from ⟨hc3, hc4, (hat1.grow hY).below hb⟩))
        have HS := Lib.hid (fun (w1 : World) (hb : Below w.heap.size w w1) => (show w1.cell? ⟨b0, o0, none⟩ = some (.int .i64 k) ∧ w1.cell? ⟨b0, o0 + 1, none⟩ = some (.string l) ∧ w1.cell? ⟨b0, o0 + 2, none⟩ = some (.slice K1 d.len c1) ∧ w1.cell? ⟨b0, o0 + 3, none⟩ = some (.int .i64 mn) ∧ w1.cell? ⟨b0, o0 + 4, none⟩ = some (.int .i64 mx) from hcs.keep (hb.block b0 hb0)))
        have HB := Lib.hid (show Below w.heap.size w (w.alloc obj50) from (Below.refl _ w).alloc (by simp) _)
        have hZ1 : w.heap.size + 1 ≤ (w.alloc obj50).heap.size := by simp
        have HZ := Lib.hid (Bx.new w (.int .i64 0) (.string ⟨#[]⟩) (.slice none 0 0) (.int .i64 0) (.int .i64 0) 24)
        have t0 : ((r.len : Int) + 1 == 0) = false := by rw [beq_eq_false_iff_ne]; omega
        have t1 : ((r.len : Int) + 1 == 1) = false := by rw [beq_eq_false_iff_ne]; omega
        have h1c : 1 < c := by omega
        have h1n : ¬ c = 1 := by omega
        have h1i : (1 : Int) ≤ (r.len : Int) + 1 := by omega
        have h1j : (r.len : Int) + 1 ≤ (c : Int) := by omega
        have h1r : 0 < r.len := by omega
        have hrc : r.len + 1 ≤ c := hc
        clear hatr hat1 hX hcs ih
        go_enter Tryz.func81, Tryz.ntmps81
        go_wp2_with fail
        have hW0 := HB.out
        have hW1 : Below w.heap.size w (w.alloc obj50).drew := HB.out.drew
        have hZ2 : w.heap.size + 1 ≤ (w.alloc obj50).drew.heap.size := hZ1
        have HZ2 := Lib.hid (HZ.out.below (Below.refl _ (w.alloc obj50)).drew)
        go_region_held3 (fun w1 => w1.cell? ⟨b0, o0, none⟩ = some (.int .i64 k) ∧ w1.cell? ⟨b0, o0 + 1, none⟩ = some (.string l) ∧ w1.cell? ⟨b0, o0 + 2, none⟩ = some (.slice K1 d.len c1) ∧ w1.cell? ⟨b0, o0 + 3, none⟩ = some (.int .i64 mn) ∧ w1.cell? ⟨b0, o0 + 4, none⟩ = some (.int .i64 mx)) (exact HS.out _ (by assumption)) (first
          | (go_at_call 81; (with_reducible refine (HC.out _ hW1 hZ2).mono ?_); rintro e w2 ⟨⟨k2, l2, A2, c2, mn2, mx2, d2⟩, rfl, hfo2, hok2, hb2⟩; have hW2 : Below w.heap.size w w2 := bt hW1 hb2 hW1.size; have HO2 := Lib.hid hok2; have HF2 := Lib.hid hfo2; have HZ3 := Lib.hid (HZ2.out.below hb2); have HZS := Lib.hid hb2.size; have hzl : w.heap.size < w2.heap.size := HZ3.out.lt; obtain ⟨⟨z0, z1, z2, z3, z4⟩, y0, y1, y2, y3, y4⟩ := bx_all HZ3.out; have hW3 : Below w.heap.size w (w2.alloc (.cells #[.int .i64 k, .string l, .slice K1 d.len c1, .int .i64 mn, .int .i64 mx, .int .i64 k2, .string l2, .slice A2 d2.len c2, .int .i64 mn2, .int .i64 mx2] 24)) := hW2.alloc hW2.size _; have hW4 : Below w.heap.size w (((((((w2.setCell ⟨w.heap.size, 0, none⟩ (.int .i64 K)).setCell ⟨w.heap.size, 1, none⟩ (.string ⟨#[]⟩)).setCell ⟨w.heap.size, 2, none⟩ (.slice (some ⟨w2.heap.size, 0, none⟩) 2 2)).setCell ⟨w.heap.size, 3, none⟩ (.int .i64 0)).setCell ⟨w.heap.size, 4, none⟩ (.int .i64 0)).alloc (.cells #[.int .i64 k, .string l, .slice K1 d.len c1, .int .i64 mn, .int .i64 mx, .int .i64 k2, .string l2, .slice A2 d2.len c2, .int .i64 mn2, .int .i64 mx2] 24))) := (below_w5 hW2 (Nat.le_refl _)).alloc (by rw [size_w5]; exact hW2.size) _))
        have HOA := Lib.hid (HA.out w2 hW2)
        have HXL := Lib.hid (fun (x : Nat) (hx : x ∈ X) => (show x < w2.heap.size from HXX.out w2 (by omega) x (List.mem_cons_of_mem _ hx)))
        obtain ⟨⟨p0, p1, p2, p3, p4⟩, _⟩ := bx_all ((HZ3.out.w5 (v0 := .int .i64 K) (v1 := .string ⟨#[]⟩) (v2 := .slice (some ⟨w2.heap.size, 0, none⟩) 2 2) (v3 := .int .i64 0) (v4 := .int .i64 0)).al (.cells (cells10 k l K1 d.len c1 mn mx k2 l2 A2 d2.len c2 mn2 mx2) 24))
        unfold cells10 put5 at p0 p1 p2 p3 p4
        go_wp2_with fail
        exact bodyPost_ret (v := (⟨K, ⟨#[]⟩, some ⟨w2.heap.size, 0, none⟩, 2, 0, 0, .cons k l d mn mx (.cons k2 l2 d2 mn2 mx2 .nil)⟩ : Nd).v) (by simp [results, Tryz.results81, go_sem, Fo.len, p0, p1, p2, p3, p4]) rfl ⟨⟨K, ⟨#[]⟩, some ⟨w2.heap.size, 0, none⟩, 2, 0, 0, .cons k l d mn mx (.cons k2 l2 d2 mn2 mx2 .nil)⟩, rfl, by
          rw [show rowF K r = Fo.cons k2 l2 d2 mn2 mx2 .nil from HF2.out.symm]; rfl,
          ok_two K ((ok_w5 HOA.out (by simp)).less fun y hy => List.mem_cons_of_mem _ hy) ((ok_w5 HO2.out (by simp)).less fun y hy => List.mem_cons_of_mem _ hy) (fun x hx => by rw [size_w5]; exact HXL.out x hx) (size_w5 _ _ _ _ _ _ _),
          (below_w5 hW2 (Nat.le_refl _)).alloc (by rw [size_w5]; exact hW2.size) _⟩
/-- 'row' of two paths that have just been laid. -/
theorem rrow_two (K : Int) {V : World} {X : List Nat} {k1 : Int} {l1 : ByteArray} {A1 : Option Addr} {c1 : Nat} {mn1 mx1 : Int} {d1 : Fo} {k2 : Int} {l2 : ByteArray} {A2 : Option Addr} {c2 : Nat} {mn2 mx2 : Int} {d2 : Fo}
    (ha : Nd.ok V X ⟨k1, l1, A1, c1, mn1, mx1, d1⟩) (hb : Nd.ok V X ⟨k2, l2, A2, c2, mn2, mx2, d2⟩) (hX : ∀ x ∈ X, x < V.heap.size) :
    Calls Tryz.prog 81 #[.int .i64 K, .slice (some ⟨V.heap.size, 0, none⟩) 2 2] (V.alloc (.cells (cells10 k1 l1 A1 d1.len c1 mn1 mx1 k2 l2 A2 d2.len c2 mn2 mx2) 24)) (MadeP (V.alloc (.cells (cells10 k1 l1 A1 d1.len c1 mn1 mx1 k2 l2 A2 d2.len c2 mn2 mx2) 24)) X (twoF K (.cons k1 l1 d1 mn1 mx1 .nil) (.cons k2 l2 d2 mn2 mx2 .nil))) := by
  have h := rrow_n 2 K (some ⟨V.heap.size, 0, none⟩) 2 (.cons k1 l1 d1 mn1 mx1 (.cons k2 l2 d2 mn2 mx2 .nil)) X (V.alloc (.cells (cells10 k1 l1 A1 d1.len c1 mn1 mx1 k2 l2 A2 d2.len c2 mn2 mx2) 24)) (Nat.le_refl _) (ok_two K ha hb hX rfl).2.2 (Nat.le_refl _) (Nat.le_of_ble_eq_true rfl) (fun x hx => by have := hX x hx; simp; omega)
  have e : rowF K (.cons k1 l1 d1 mn1 mx1 (.cons k2 l2 d2 mn2 mx2 .nil)) = twoF K (.cons k1 l1 d1 mn1 mx1 .nil) (.cons k2 l2 d2 mn2 mx2 .nil) := by
    rw [rowF, if_neg (by simp [Fo.len]), rowF_one rfl]
  rw [e] at h
  exact h
end Go.Proofs.YtpaehicfndkliaaGreatDoor.De


/- The walk of the document's 'tail'. Condition: the path can be read. -/
namespace Go.Proofs.YtpaehicfndkliaaGreatDoor.De
open Go.RowKit Go.Lib Na Go.PN Pa

/-- What stands in memory ahead of a call of 'tail'. -/
abbrev tlW (w : World) (k : Int) (l : ByteArray) (A : Option Addr) (n c : Nat) (mn mx : Int) : World := ((w.alloc (obj5 k l A n c mn mx)).alloc obj50).alloc (obj5 k l A n c mn mx)
theorem tl_below (w : World) (k : Int) (l : ByteArray) (A : Option Addr) (n c : Nat) (mn mx : Int) : Below w.heap.size w (tlW w k l A n c mn mx) := (((Below.refl _ w).alloc (Nat.le_refl _) _).alloc (by simp) _).alloc (by simp; omega) _
theorem tl_size (w : World) (k : Int) (l : ByteArray) (A : Option Addr) (n c : Nat) (mn mx : Int) : (tlW w k l A n c mn mx).heap.size = w.heap.size + 3 := by simp
theorem tl_box (w : World) (k : Int) (l : ByteArray) (A : Option Addr) (n c : Nat) (mn mx : Int) :
    Bx (tlW w k l A n c mn mx) w.heap.size (.int .i64 k) (.string l) (.slice A n c) (.int .i64 mn) (.int .i64 mx) ∧ Bx (tlW w k l A n c mn mx) (w.heap.size + 1) (.int .i64 0) (.string ⟨#[]⟩) (.slice none 0 0) (.int .i64 0) (.int .i64 0) ∧ Bx (tlW w k l A n c mn mx) (w.heap.size + 2) (.int .i64 k) (.string l) (.slice A n c) (.int .i64 mn) (.int .i64 mx) := by
  refine ⟨((Bx.new w (.int .i64 k) (.string l) (.slice A n c) (.int .i64 mn) (.int .i64 mx) 24).al _).al _, ?_, ?_⟩
  · have := (Bx.new (w.alloc (obj5 k l A n c mn mx)) (.int .i64 0) (.string ⟨#[]⟩) (.slice none 0 0) (.int .i64 0) (.int .i64 0) 24).al (obj5 k l A n c mn mx)
    simpa using this
  · have := Bx.new ((w.alloc (obj5 k l A n c mn mx)).alloc obj50) (.int .i64 k) (.string l) (.slice A n c) (.int .i64 mn) (.int .i64 mx) 24
    simpa using this
set_option maxRecDepth 100000 in
set_option maxHeartbeats 8000000 in
theorem rtail_n (m : Nat) : ∀ (a : Nd) (X : List Nat) (w : World), a.ok w X → (∀ x ∈ X, x < w.heap.size) → m ≤ 100000 →
    Calls Tryz.prog 82 #[a.v, .int .i64 ((m : Int) + 1)] w (MadeP w X (tailF m (a.fo .nil))) := by
  induction m with
  | zero =>
    intro a X w hok hX _
    obtain ⟨k, l, A, c, mn, mx, d⟩ := a
    have HO := Lib.hid (show ∀ o1 o2 o3 : Obj, Nd.ok ((((w.alloc o1).alloc o2).alloc o3).alloc (.cells (cells10 1 ⟨#[]⟩ none 0 0 0 0 k l A d.len c mn mx) 24)) X ⟨5, ⟨#[]⟩, some ⟨w.heap.size + 1 + 1 + 1, 0, none⟩, 2, 0, 0, .cons 1 ⟨#[]⟩ .nil 0 0 (.cons k l d mn mx .nil)⟩ from fun o1 o2 o3 =>
      ok_two (d1 := .nil) 5 ⟨Nat.le_refl _, Nat.zero_le _, trivial⟩ (((hok.al o1).al o2).al o3) (fun x hx => by have := hX x hx; simp; omega) (by simp))
    have HB := Lib.hid (show ∀ o1 o2 o3 o4 : Obj, Below w.heap.size w ((((w.alloc o1).alloc o2).alloc o3).alloc o4) from fun o1 o2 o3 o4 => ((((Below.refl _ w).alloc (by simp) o1).alloc (by simp) o2).alloc (by simp; omega) o3).alloc (by simp; omega) o4)
    unfold Nd.v
    simp only [Int.natCast_zero, Int.zero_add]
    clear hok hX
    go_enter Tryz.func82, Tryz.ntmps82
    go_wp2_with fail
    exact bodyPost_ret (v := .agg #[.int .i64 5, .string ⟨#[]⟩, .slice (some ⟨w.heap.size + 1 + 1 + 1, 0, none⟩) 2 2, .int .i64 0, .int .i64 0]) (by simp [results, Tryz.results82, go_sem]) rfl ⟨⟨5, ⟨#[]⟩, some ⟨w.heap.size + 1 + 1 + 1, 0, none⟩, 2, 0, 0, .cons 1 ⟨#[]⟩ .nil 0 0 (.cons k l d mn mx .nil)⟩, rfl, rfl, HO.out _ _ _, HB.out _ _ _ _⟩
  | succ m ih =>
    intro a X w hok hX hm
    have HE := Lib.hid (show tailF (m + 1) (a.fo .nil) = maybeF (twoF 4 (a.fo .nil) (tailF m (a.fo .nil))) from rfl)
    rw [HE.out]
    obtain ⟨k, l, A, c, mn, mx, d⟩ := a
    have hb := tl_below w k l A d.len c mn mx
    have hz := tl_size w k l A d.len c mn mx
    have HBX := Lib.hid (tl_box w k l A d.len c mn mx)
    have hY : ∀ y, y ∈ (w.heap.size + 2) :: (w.heap.size + 1) :: X → y ∈ X ∨ w.heap.size ≤ y := fun y hy => by
      simp only [List.mem_cons] at hy
      rcases hy with rfl | rfl | hy
      · exact Or.inr (by omega)
      · exact Or.inr (by omega)
      · exact Or.inl hy
    have HXX := Lib.hid (show ∀ (w1 : World), w.heap.size + 3 ≤ w1.heap.size → ∀ x ∈ (w.heap.size + 2) :: (w.heap.size + 1) :: X, x < w1.heap.size from fun w1 h x hx => by
      simp only [List.mem_cons] at hx
      rcases hx with rfl | rfl | hx
      · omega
      · omega
      · have := hX x hx; omega)
    have HC := Lib.hid (fun (w1 : World) (h1 : Below w.heap.size w w1) (h3 : w.heap.size + 3 ≤ w1.heap.size) => ih ⟨k, l, A, c, mn, mx, d⟩ ((w.heap.size + 2) :: (w.heap.size + 1) :: X) w1 ((ok_grow hok hY).below h1) (HXX.out w1 h3) (by omega))
    have HA := Lib.hid (fun (w1 : World) (h1 : Below w.heap.size w w1) => (ok_grow hok hY).below h1)
    unfold Nd.v at HC ⊢
    simp only at HC
    have twm : IntKind.i64.wrap ((m : Int) + 1 + 1 - 1) = (m : Int) + 1 := (IntWalk.i64_in _ ⟨by omega, by omega⟩).trans (by omega)
    have twm2 : IntKind.i64.wrap ((m : Int) + 1) = (m : Int) + 1 := IntWalk.i64_in _ ⟨by omega, by omega⟩
    have hm1 : (1 : Int) < (m : Int) + 1 + 1 := by omega
    have hm2 : (0 : Int) < (m : Int) + 1 := by omega
    have hm3 : (0 : Int) ≤ (m : Int) := by omega
    clear hok hX ih HE
    simp only [Int.natCast_add, Int.natCast_one]
    generalize tailF m (Nd.fo ⟨k, l, A, c, mn, mx, d⟩ .nil) = TF at *
    go_enter Tryz.func82, Tryz.ntmps82
    go_wp2_with fail
    have HV := Lib.hid hb
    have hV0 : Below (w.heap.size + 3) (tlW w k l A d.len c mn mx) (tlW w k l A d.len c mn mx) := Below.refl _ _
    have hV1 : Below (w.heap.size + 3) (tlW w k l A d.len c mn mx) (tlW w k l A d.len c mn mx).drew := hV0.drew
    have hU0 : Below (w.heap.size + 1) (tlW w k l A d.len c mn mx) (tlW w k l A d.len c mn mx) := Below.refl _ _
    have hU1 : Below (w.heap.size + 1) (tlW w k l A d.len c mn mx) (tlW w k l A d.len c mn mx).drew := hU0.drew
    have HS := Lib.hid (fun (w1 : World) (h : Below (w.heap.size + 1) (tlW w k l A d.len c mn mx) w1) => (show w1.cell? ⟨w.heap.size, 0, none⟩ = some (.int .i64 k) ∧ w1.cell? ⟨w.heap.size, 1, none⟩ = some (.string l) ∧ w1.cell? ⟨w.heap.size, 2, none⟩ = some (.slice A d.len c) ∧ w1.cell? ⟨w.heap.size, 3, none⟩ = some (.int .i64 mn) ∧ w1.cell? ⟨w.heap.size, 4, none⟩ = some (.int .i64 mx) from by
      have h2 := HBX.out.1.at_below h (Nat.lt_succ_self _)
      exact ⟨h2.c0, h2.c1, h2.c2, h2.c3, h2.c4⟩))
    have HX2 := Lib.hid (fun (w1 : World) (h : Below (w.heap.size + 3) (tlW w k l A d.len c mn mx) w1) => (show Bx w1 (w.heap.size + 1) (.int .i64 0) (.string ⟨#[]⟩) (.slice none 0 0) (.int .i64 0) (.int .i64 0) ∧ Bx w1 (w.heap.size + 2) (.int .i64 k) (.string l) (.slice A d.len c) (.int .i64 mn) (.int .i64 mx) from
      ⟨HBX.out.2.1.at_below h (by omega), HBX.out.2.2.at_below h (by omega)⟩))
    have HZ := Lib.hid hz
    have HVW := Lib.hid (fun (w1 : World) (h : Below (w.heap.size + 3) (tlW w k l A d.len c mn mx) w1) => (show Below w.heap.size w w1 ∧ w.heap.size + 3 ≤ w1.heap.size from ⟨HV.out.trans (h.mono (by omega)), by have := h.size; rw [hz] at this; exact this⟩))
    clear hb hz HV
    unfold tlW at *
    generalize ((w.alloc (obj5 k l A d.len c mn mx)).alloc obj50).alloc (obj5 k l A d.len c mn mx) = V at *
    obtain ⟨⟨z0, z1, z2, z3, z4⟩, y0, y1, y2, y3, y4⟩ := bx_all (HX2.out _ hV0).2
    go_region_held3 (fun w1 => w1.cell? ⟨w.heap.size, 0, none⟩ = some (.int .i64 k) ∧ w1.cell? ⟨w.heap.size, 1, none⟩ = some (.string l) ∧ w1.cell? ⟨w.heap.size, 2, none⟩ = some (.slice A d.len c) ∧ w1.cell? ⟨w.heap.size, 3, none⟩ = some (.int .i64 mn) ∧ w1.cell? ⟨w.heap.size, 4, none⟩ = some (.int .i64 mx)) (first | (with_reducible exact HS.out _ hU5) | (with_reducible exact HS.out _ hU4) | (with_reducible exact HS.out _ hU3) | (with_reducible exact HS.out _ hU2) | (with_reducible exact HS.out _ hU1) | (with_reducible exact HS.out _ hU0)) (first
      | (go_at_call 82; (with_reducible refine (HC.out _ (HVW.out _ hV1).1 (HVW.out _ hV1).2).mono ?_); rintro e w2 ⟨⟨k2, l2, A2, c2, mn2, mx2, d2⟩, rfl, hfo2, hok2, hb2⟩; have hV2 := bt hV1 hb2 (HVW.out _ hV1).2; have hU2 := bt hU1 hb2 (by have := (HVW.out _ hV1).2; omega); have HF2 := Lib.hid hfo2; have HO2 := Lib.hid hok2; have hV3 := hV2.alloc (HVW.out _ hV2).2 (.cells #[.int .i64 k, .string l, .slice A d.len c, .int .i64 mn, .int .i64 mx, .int .i64 k2, .string l2, .slice A2 d2.len c2, .int .i64 mn2, .int .i64 mx2] 24); have hU3 := hU2.alloc (by have := (HVW.out _ hV2).2; omega) (.cells #[.int .i64 k, .string l, .slice A d.len c, .int .i64 mn, .int .i64 mx, .int .i64 k2, .string l2, .slice A2 d2.len c2, .int .i64 mn2, .int .i64 mx2] 24); have HRW := Lib.hid (rrow_two 4 (HA.out w2 (HVW.out _ hV2).1) hok2 (HXX.out w2 (HVW.out _ hV2).2)); have hlw : w.heap.size < w2.heap.size := by have := (HVW.out _ hV2).2; omega)
      | (go_at_call 81; (with_reducible refine (HRW.out).mono ?_); rintro e w4 ⟨⟨k4, l4, A4, c4, mn4, mx4, d4⟩, rfl, hfo4, hok4, hb4⟩; have hV4 := bt hV3 hb4 (HVW.out _ hV3).2; have hU4 := bt hU3 hb4 (Nat.le_trans (show w.heap.size + 1 ≤ w.heap.size + 3 by omega) (HVW.out _ hV3).2); have HF4 := Lib.hid hfo4; have HO4 := Lib.hid hok4; have hU5 := below_w5 hU4 (show w.heap.size + 1 ≤ w.heap.size + 1 + 1 by omega) (v0 := .int .i64 k4) (v1 := .string l4) (v2 := .slice A4 d4.len c4) (v3 := .int .i64 mn4) (v4 := .int .i64 mx4); have hlw4 : w.heap.size + 3 ≤ w4.heap.size := (HVW.out _ hV4).2; obtain ⟨⟨z0, z1, z2, z3, z4⟩, y0, y1, y2, y3, y4⟩ := bx_all (HX2.out _ hV4).2))
    have HB5 := Lib.hid (show Bx (((((w4.setCell ⟨w.heap.size + 1 + 1, 0, none⟩ (.int .i64 k4)).setCell ⟨w.heap.size + 1 + 1, 1, none⟩ (.string l4)).setCell ⟨w.heap.size + 1 + 1, 2, none⟩ (.slice A4 d4.len c4)).setCell ⟨w.heap.size + 1 + 1, 3, none⟩ (.int .i64 mn4)).setCell ⟨w.heap.size + 1 + 1, 4, none⟩ (.int .i64 mx4)) (w.heap.size + 1 + 1) (.int .i64 k4) (.string l4) (.slice A4 d4.len c4) (.int .i64 mn4) (.int .i64 mx4) from (HX2.out _ hV4).2.w5)
    have HB4 := Lib.hid (show Bx (((((w4.setCell ⟨w.heap.size + 1 + 1, 0, none⟩ (.int .i64 k4)).setCell ⟨w.heap.size + 1 + 1, 1, none⟩ (.string l4)).setCell ⟨w.heap.size + 1 + 1, 2, none⟩ (.slice A4 d4.len c4)).setCell ⟨w.heap.size + 1 + 1, 3, none⟩ (.int .i64 mn4)).setCell ⟨w.heap.size + 1 + 1, 4, none⟩ (.int .i64 mx4)) (w.heap.size + 1) (.int .i64 0) (.string ⟨#[]⟩) (.slice none 0 0) (.int .i64 0) (.int .i64 0) from (HX2.out _ hV4).1.far5 (by omega))
    have HO5 := Lib.hid (show Nd.ok (((((w4.setCell ⟨w.heap.size + 1 + 1, 0, none⟩ (.int .i64 k4)).setCell ⟨w.heap.size + 1 + 1, 1, none⟩ (.string l4)).setCell ⟨w.heap.size + 1 + 1, 2, none⟩ (.slice A4 d4.len c4)).setCell ⟨w.heap.size + 1 + 1, 3, none⟩ (.int .i64 mn4)).setCell ⟨w.heap.size + 1 + 1, 4, none⟩ (.int .i64 mx4)) ((w.heap.size + 1) :: X) ⟨k4, l4, A4, c4, mn4, mx4, d4⟩ from (ok_w5 hok4 (by simp)).less fun y hy => List.mem_cons_of_mem _ hy)
    have HL5 := Lib.hid (show Below w.heap.size w (((((w4.setCell ⟨w.heap.size + 1 + 1, 0, none⟩ (.int .i64 k4)).setCell ⟨w.heap.size + 1 + 1, 1, none⟩ (.string l4)).setCell ⟨w.heap.size + 1 + 1, 2, none⟩ (.slice A4 d4.len c4)).setCell ⟨w.heap.size + 1 + 1, 3, none⟩ (.int .i64 mn4)).setCell ⟨w.heap.size + 1 + 1, 4, none⟩ (.int .i64 mx4)) from below_w5 (HVW.out _ hV4).1 (by omega))
    have HZ5 := Lib.hid (show w.heap.size + 3 ≤ (((((w4.setCell ⟨w.heap.size + 1 + 1, 0, none⟩ (.int .i64 k4)).setCell ⟨w.heap.size + 1 + 1, 1, none⟩ (.string l4)).setCell ⟨w.heap.size + 1 + 1, 2, none⟩ (.slice A4 d4.len c4)).setCell ⟨w.heap.size + 1 + 1, 3, none⟩ (.int .i64 mn4)).setCell ⟨w.heap.size + 1 + 1, 4, none⟩ (.int .i64 mx4)).heap.size by rw [size_w5]; exact hlw4)
    have HXL := Lib.hid (fun (x : Nat) (hx : x ∈ X) => (show x < (((((w4.setCell ⟨w.heap.size + 1 + 1, 0, none⟩ (.int .i64 k4)).setCell ⟨w.heap.size + 1 + 1, 1, none⟩ (.string l4)).setCell ⟨w.heap.size + 1 + 1, 2, none⟩ (.slice A4 d4.len c4)).setCell ⟨w.heap.size + 1 + 1, 3, none⟩ (.int .i64 mn4)).setCell ⟨w.heap.size + 1 + 1, 4, none⟩ (.int .i64 mx4)).heap.size from HXX.out _ HZ5.out x (List.mem_cons_of_mem _ (List.mem_cons_of_mem _ hx))))
    have HEQ := Lib.hid (show Fo.cons k4 l4 d4 mn4 mx4 .nil = twoF 4 (.cons k l d mn mx .nil) TF from (show Fo.cons k4 l4 d4 mn4 mx4 .nil = _ from hfo4).trans (by rw [show Fo.cons k2 l2 d2 mn2 mx2 .nil = TF from hfo2]))
    clear z0 z1 z2 z3 z4 y0 y1 y2 y3 y4 hU5 hU4 hV4 hok4 hok2 HO4 HF4 hb4 hU3 hV3 hb2 hV2 hU2 HO2 HRW
    generalize ((((w4.setCell ⟨w.heap.size + 1 + 1, 0, none⟩ (.int .i64 k4)).setCell ⟨w.heap.size + 1 + 1, 1, none⟩ (.string l4)).setCell ⟨w.heap.size + 1 + 1, 2, none⟩ (.slice A4 d4.len c4)).setCell ⟨w.heap.size + 1 + 1, 3, none⟩ (.int .i64 mn4)).setCell ⟨w.heap.size + 1 + 1, 4, none⟩ (.int .i64 mx4) = W at *
    obtain ⟨⟨p0, p1, p2, p3, p4⟩, q0, q1, q2, q3, q4⟩ := bx_all HB5.out
    obtain ⟨⟨g0, g1, g2, g3, g4⟩, f0, f1, f2, f3, f4⟩ := bx_all HB4.out
    have hz5 : w.heap.size + 1 < W.heap.size := by have := HZ5.out; omega
    obtain ⟨⟨j0, j1, j2, j3, j4⟩, _⟩ := bx_all ((HB4.out.w5 (v0 := .int .i64 5) (v1 := .string ⟨#[]⟩) (v2 := .slice (some ⟨W.heap.size, 0, none⟩) 2 2) (v3 := .int .i64 0) (v4 := .int .i64 0)).al (.cells (cells10 1 ⟨#[]⟩ none 0 0 0 0 k4 l4 A4 d4.len c4 mn4 mx4) 24))
    unfold cells10 put5 at j0 j1 j2 j3 j4
    have J := Lib.hid (And.intro j0 (And.intro j1 (And.intro j2 (And.intro j3 j4))))
    clear j0 j1 j2 j3 j4
    go_wp2_with fail
    obtain ⟨j0, j1, j2, j3, j4⟩ := J.out
    exact bodyPost_ret (v := (⟨5, ⟨#[]⟩, some ⟨W.heap.size, 0, none⟩, 2, 0, 0, .cons 1 ⟨#[]⟩ .nil 0 0 (.cons k4 l4 d4 mn4 mx4 .nil)⟩ : Nd).v) (by simp [results, Tryz.results82, go_sem, Fo.len, j0, j1, j2, j3, j4]) rfl ⟨⟨5, ⟨#[]⟩, some ⟨W.heap.size, 0, none⟩, 2, 0, 0, .cons 1 ⟨#[]⟩ .nil 0 0 (.cons k4 l4 d4 mn4 mx4 .nil)⟩, rfl, by
      rw [show Nd.fo ⟨k, l, A, c, mn, mx, d⟩ .nil = Fo.cons k l d mn mx .nil from rfl, ← HEQ.out]; rfl,
      ok_two (d1 := .nil) 5 ⟨Nat.le_refl _, Nat.zero_le _, trivial⟩ ((ok_w5 HO5.out (by simp)).less fun y hy => List.mem_cons_of_mem _ hy) (fun x hx => by rw [size_w5]; exact HXL.out x hx) (size_w5 _ _ _ _ _ _ _),
      (below_w5 HL5.out (by omega)).alloc (by rw [size_w5]; exact HL5.out.size) _⟩
end Go.Proofs.YtpaehicfndkliaaGreatDoor.De


/- The walks of the document's 'plain', 'Plain'. Condition: the path can be read; for 'plain' it may be. -/
namespace Go.Proofs.YtpaehicfndkliaaGreatDoor.De
open Go.RowKit Go.Lib Na Go.PN Pa

theorem rrow_rowN (K : Int) {w : World} {base : Nat} {X : List Nat} {v : Value} {n : Nat} {f : Fo} (h : RowN w base X v n f) (hX : ∀ x ∈ X, x < base) (hb : base ≤ w.heap.size) :
    Calls Tryz.prog 81 #[.int .i64 K, v] w (MadeP w X (rowF K f)) := by
  obtain ⟨A, c, rfl, h1, h2, h3⟩ := h.at hX
  have hl := h.len
  subst hl
  exact rrow_n f.len K A c f X w (Nat.le_refl _) h3 h1 h2 (fun x hx => by have := hX x hx; omega)
theorem fresh0 {wr : World} {base : Nat} {X : List Nat} {v : Value} {n : Nat} {f : Fo} (h : RowN wr base X v n f) : ∀ y ∈ vb v ++ X, y ∈ X ∨ base ≤ y := by
  intro y hy
  rw [List.mem_append] at hy
  rcases hy with hy | hy
  · exact Or.inr (h.lt y hy).1
  · exact Or.inl hy
set_option maxRecDepth 100000 in
set_option maxHeartbeats 16000000 in
theorem rplain_n (n : Nat) : ∀ (a : Nd) (X : List Nat) (w : World), a.kids.sz < n → a.kids.sz ≤ 60 → Val (a.fo .nil) → a.ok w X → (∀ x ∈ X, x < w.heap.size) →
    Calls Tryz.prog 47 #[a.v] w (MadeP w X (pl1 a.k a.l (plL a.kids) a.mn a.mx)) := by
  induction n with
  | zero => intro a X w hn; omega
  | succ n ih =>
    intro a X w hn h60 hval hok hX
    obtain ⟨iP, hi, hz0, hz1, hz2⟩ := iPath
    obtain ⟨k, l, A, c, mn, mx, kids⟩ := a
    obtain ⟨hc, hc2, hat⟩ := hok
    unfold Nd.v
    simp only at hn h60 hc hc2 hat hval ⊢
    have hone := one_zero hval.cons.1
    have hvk := hval.cons.2.1
    have HN := Lib.hid hn
    have HV := Lib.hid hvk
    have HONE := Lib.hid hone
    have HF := Lib.hid (fun (Y : List Nat) (hY : ∀ y ∈ Y, y ∈ X ∨ w.heap.size ≤ y) => hat.grow hY)
    have HAT := Lib.hid hat
    have IH := Lib.hid ih
    have HX := Lib.hid (show ∀ x ∈ (w.heap.size + 1) :: X, x < w.heap.size + 2 from fun x hx => by
      rcases List.mem_cons.1 hx with rfl | hx
      · omega
      · have := hX x hx; omega)
    have hkl : kids.len ≤ 60 := by have := sz_len kids; omega
    have HS0 := Lib.hid (RowN.none ((w.alloc (obj5 k l A kids.len c mn mx)).alloc obj50) (w.heap.size + 2) ((w.heap.size + 1) :: X))
    have HK0 := Lib.hid ((Bx.new w (.int .i64 k) (.string l) (.slice A kids.len c) (.int .i64 mn) (.int .i64 mx) 24).al obj50)
    have HR0 := Lib.hid (show Bx ((w.alloc (obj5 k l A kids.len c mn mx)).alloc obj50) (w.heap.size + 1) (.int .i64 0) (.string ⟨#[]⟩) (.slice none 0 0) (.int .i64 0) (.int .i64 0) from by
      have := Bx.new (w.alloc (obj5 k l A kids.len c mn mx)) (.int .i64 0) (.string ⟨#[]⟩) (.slice none 0 0) (.int .i64 0) (.int .i64 0) 24
      simpa using this)
    have HB0 := Lib.hid (show Below w.heap.size w ((w.alloc (obj5 k l A kids.len c mn mx)).alloc obj50) from ((Below.refl _ w).alloc (by simp) _).alloc (by simp) _)
    have HZ0 := Lib.hid (show w.heap.size + 2 ≤ ((w.alloc (obj5 k l A kids.len c mn mx)).alloc obj50).heap.size by simp)
    clear hat hn ih hX hval hvk hone
    go_enter Tryz.func47, Tryz.ntmps47
    go_wp2_with fail
    go_loopw [3, 4] (fun lv iv wr => ∃ (q : Nat) (dn r : Fo), Hid (kids = dn.app r) ∧ Hid (dn.len = q) ∧ iv = .int .i64 q ∧ Hid (RowN wr (w.heap.size + 2) ((w.heap.size + 1) :: X) lv q (plL dn)) ∧ Hid (Bx wr w.heap.size (.int .i64 k) (.string l) (.slice A kids.len c) (.int .i64 mn) (.int .i64 mx)) ∧ Hid (Bx wr (w.heap.size + 1) (.int .i64 0) (.string ⟨#[]⟩) (.slice none 0 0) (.int .i64 0) (.int .i64 0)) ∧ Hid (Below w.heap.size w wr) ∧ Hid (w.heap.size + 2 ≤ wr.heap.size)) (fun _ iv _ => kids.len - (RowKit.intOf iv).toNat)
    case atStart => exact ⟨0, .nil, kids, Lib.hid rfl, Lib.hid rfl, rfl, HS0, HK0, HR0, HB0, HZ0⟩
    case round =>
      obtain ⟨q, dn, r, hk, hq, rfl, HS, HK, HR, HB, HZ⟩ := hrel
      clear HS0 HK0 HR0 HB0 HZ0
      have hlen := Lib.hid (show kids.len = q + r.len by rw [hk.out, Fo.app_len, hq.out])
      obtain ⟨⟨x0, x1, x2, x3, x4⟩, y0, y1, y2, y3, y4⟩ := bx_all (HK.out)
      cases r with
      | cons k1 l1 d1 mn1 mx1 r1 =>
        have hlt : (q : Int) < kids.len := by have := hlen.out; simp only [Fo.len] at this; omega
        have hlt2 : decide (q < kids.len) = true := decide_eq_true (by omega)
        have hq0 : (0 : Int) ≤ q := by omega
        have hk2 : kids = dn.app (.cons k1 l1 d1 mn1 mx1 r1) := hk.out
        obtain ⟨b0, o0, rfl⟩ := at_shape HAT.out (by rw [hk2, Fo.app_len]; simp only [Fo.len]; omega)
        have h3 := (HF.out (vb u3 ++ (w.heap.size + 1) :: X) (fresh_of HS.out (by omega) (by omega))).below HB.out
        rw [hk2] at h3
        obtain ⟨K1, c1, hcel, hc3, hc4, hat1⟩ := h3.nth hq.out
        obtain ⟨e0, e1, e2, e3, e4⟩ := hcel
        have hsz : d1.sz < n ∧ d1.sz ≤ 60 := by
          have h5 := congrArg Fo.sz hk2
          rw [Fo.app_sz] at h5
          have h6 := HN.out
          simp only [Fo.sz] at h5
          omega
        have hvv : Val (.cons k1 l1 d1 mn1 mx1 r1) := Val.app (f := dn) (by have := HV.out; rwa [hk2] at this)
        have hq60 : q ≤ 60 := by omega
        have HCALL := Lib.hid (IH.out ⟨k1, l1, K1, c1, mn1, mx1, d1⟩ (vb u3 ++ (w.heap.size + 1) :: X) wr hsz.1 hsz.2 hvv.single ⟨hc3, hc4, hat1⟩ (fun x hx => lt_of HS.out HX.out HZ.out x hx))
        unfold Nd.v at HCALL
        simp only at HCALL
        have HKK := Lib.hid (show plL (dn.app (.cons k1 l1 d1 mn1 mx1 .nil)) = (plL dn).app (pl1 k1 l1 (plL d1) mn1 mx1) by rw [plL_app]; congr 1; rw [plL]; exact Fo.app_nil _)
        have hkk := Lib.hid (show kids = (dn.app (.cons k1 l1 d1 mn1 mx1 .nil)).app r1 by rw [hk2, Fo.app_assoc]; rfl)
        have hqq := Lib.hid (show (dn.app (.cons k1 l1 d1 mn1 mx1 .nil)).len = q + 1 by rw [Fo.app_len, hq.out]; rfl)
        clear h3 hat1 hvv hsz hk2
        go_wp2_with (first
          | (go_at_call 47; (with_reducible refine (HCALL.out).mono ?_); rintro e w2 ⟨⟨k2, l2, A2, c2, mn2, mx2, d2⟩, rfl, hfo2, hok2, hb2⟩; have HF2 := Lib.hid hfo2; have HO2 := Lib.hid hok2; have HB2 := Lib.hid hb2; clear hfo2 hok2 hb2; have HS2 := Lib.hid (HS.out.below HB2.out); have HZ2 := Lib.hid (Nat.le_trans HZ.out HB2.out.size))
          | (obtain ⟨cs8, hown8, hcs8⟩ := HS2.out.own; have HCS8 := Lib.hid hcs8; have HOWN8 := Lib.hid (hown8.alloc (obj5 k2 l2 A2 d2.len c2 mn2 mx2)); clear hown8 hcs8; refine wpList_append_own_at _ rfl (.tmp 14) (.tmp 21) 22 rfl (w.heap.size + 2) 24 iP _ 5 64 Tryz.underlying22 hi hz0 hz1 hz2 rfl (by decide) u3 (q) cs8 rfl HOWN8.out ⟨(w2).heap.size, 0, none⟩ 1 1 [.int .i64 k2, .string l2, .slice A2 d2.len c2, .int .i64 mn2, .int .i64 mx2] rfl rfl (lit5 (w2) _ _ _ _ _ _) (csl_one _ _ _ _ _ _ _) (by unfold maxLen; omega) (by omega) (by have := HZ2.out; simp; omega) ?_; intro v8 w8 hown8 hgrow8 _ hat8; obtain ⟨HS8, HB8, HZ8⟩ := HS2.out.push_all k2 l2 A2 c2 mn2 mx2 d2 HO2.out HCS8.out HZ2.out hown8 hgrow8 hat8; clear hown8 hgrow8 hat8))
        exact ⟨⟨q + 1, _, r1, hkk, hqq, by go_num, Lib.hid (by rw [HKK.out, ← HF2.out]; exact HS8.out), Lib.hid ((HK.out.below HB2.out).at_below HB8.out (by omega)), Lib.hid ((HR.out.below HB2.out).at_below HB8.out (by omega)), Lib.hid (bt (bt HB.out HB2.out HB.out.size) HB8.out (by omega)), Lib.hid (Nat.le_trans HZ2.out HZ8.out)⟩, by simp [RowKit.intOf] <;> omega⟩
      | nil =>
        have hlt : ¬ (q : Int) < kids.len := by have := hlen.out; simp only [Fo.len] at this; omega
        have hlt2 : decide (q < kids.len) = false := decide_eq_false (by have := hlen.out; simp only [Fo.len] at this; omega)
        have hql : q = kids.len := by have := hlen.out; simp only [Fo.len] at this; omega
        have hdk : dn = kids := by have := hk.out; rw [Fo.app_nil] at this; exact this.symm
        subst hql
        subst hdk
        obtain ⟨⟨z0, z1, z2, z3, z4⟩, t0, t1, t2, t3, t4⟩ := bx_all (HR.out)
        have hbz : w.heap.size + 2 ≤ wr.heap.size := HZ.out
        clear hq hk hlen
        obtain ⟨hk9, g2, g3, g4, g5, g6⟩ := HONE.out
        have HK9 : k = 1 ∨ k = 2 ∨ k = 3 ∨ k = 4 ∨ k = 5 ∨ k = 6 ∨ k = 7 ∨ k = 8 ∨ k = 9 := by omega
        rcases HK9 with rfl | rfl | rfl | rfl | rfl | rfl | rfl | rfl | rfl
        · clear g2 g3 g4 g5 g6
          go_wp2_with fail
          exact bodyPost_ret (v := (⟨1, ⟨#[]⟩, none, 0, 0, 0, .nil⟩ : Nd).v) (by simp [results, Tryz.results47, go_sem, z0, z1, z2, z3, z4, Fo.len]) rfl (made_w5 (a := ⟨1, ⟨#[]⟩, none, 0, 0, 0, .nil⟩) rfl ⟨Nat.le_refl _, Nat.zero_le _, trivial⟩ HB.out (by omega) _ _ _ _ _)
        · clear g2 g3 g4 g5 g6
          go_wp2_with fail
          exact bodyPost_ret (v := (⟨2, l, none, 0, 0, 0, .nil⟩ : Nd).v) (by simp [results, Tryz.results47, go_sem, z0, z1, z2, z3, z4, Fo.len]) rfl (made_w5 (a := ⟨2, l, none, 0, 0, 0, .nil⟩) rfl ⟨Nat.le_refl _, Nat.zero_le _, trivial⟩ HB.out (by omega) _ _ _ _ _)
        · clear g2 g3 g4 g5 g6
          go_wp2_with fail
          exact bodyPost_ret (v := (⟨3, l, none, 0, 0, 0, .nil⟩ : Nd).v) (by simp [results, Tryz.results47, go_sem, z0, z1, z2, z3, z4, Fo.len]) rfl (made_w5 (a := ⟨3, l, none, 0, 0, 0, .nil⟩) rfl ⟨Nat.le_refl _, Nat.zero_le _, trivial⟩ HB.out (by omega) _ _ _ _ _)
        · clear g2 g3 g4 g5 g6
          go_wp2_with (first | (go_at_call 81; (with_reducible refine (rrow_rowN 4 HS.out HX.out HZ.out).mono ?_); rintro e w9 ⟨⟨k9, l9, A9, c9, mn9, mx9, d9⟩, rfl, hfo9, hok9, hb9⟩; have HF9 := Lib.hid hfo9; have HO9 := Lib.hid hok9; have HB9 := Lib.hid hb9; clear hfo9 hok9 hb9; obtain ⟨⟨r0, r1, r2, r3, r4⟩, s0, s1, s2, s3, s4⟩ := bx_all (HR.out.below HB9.out)))
          exact bodyPost_ret (v := (⟨k9, l9, A9, c9, mn9, mx9, d9⟩ : Nd).v) (by simp [results, Tryz.results47, go_sem, r0, r1, r2, r3, r4]) rfl (made_w5 (HF9.out) HO9.out (bt HB.out HB9.out HB.out.size) (by omega) _ _ _ _ _)
        · clear g2 g3 g4 g5 g6
          go_wp2_with (first | (go_at_call 81; (with_reducible refine (rrow_rowN 5 HS.out HX.out HZ.out).mono ?_); rintro e w9 ⟨⟨k9, l9, A9, c9, mn9, mx9, d9⟩, rfl, hfo9, hok9, hb9⟩; have HF9 := Lib.hid hfo9; have HO9 := Lib.hid hok9; have HB9 := Lib.hid hb9; clear hfo9 hok9 hb9; obtain ⟨⟨r0, r1, r2, r3, r4⟩, s0, s1, s2, s3, s4⟩ := bx_all (HR.out.below HB9.out)))
          exact bodyPost_ret (v := (⟨k9, l9, A9, c9, mn9, mx9, d9⟩ : Nd).v) (by simp [results, Tryz.results47, go_sem, r0, r1, r2, r3, r4]) rfl (made_w5 (HF9.out) HO9.out (bt HB.out HB9.out HB.out.size) (by omega) _ _ _ _ _)
        · have hl1 : dn.len = 1 := g4 (by decide)
          clear g2 g3 g4 g5 g6
          obtain ⟨AR, cR, rfl, hR1, hR2, hR3⟩ := HS.out.at HX.out
          obtain ⟨k1, l1, d1, mn1, mx1, hL1⟩ := one_of (d := plL dn) (by rw [plL_len]; exact hl1)
          rw [hL1] at hR3
          have HAR0 := Lib.hid hR3
          obtain ⟨b1, o1, K1, c1, rfl, hR4, hcel, hR5, hR6, hR7, _⟩ := hR3
          have hcel2 := hcel
          obtain ⟨e0, e1, e2, e3, e4⟩ := hcel
          have hb1 : b1 < wr.heap.size := cell_lt e0
          have HL1 := Lib.hid hL1
          have HOE := Lib.hid (show Nd.ok wr ((w.heap.size + 1) :: X) ⟨k1, l1, K1, c1, mn1, mx1, d1⟩ from ⟨hR5, hR6, hR7⟩)
          have HXL := Lib.hid (show ∀ x ∈ (w.heap.size + 1) :: X, x < wr.heap.size from fun x hx => Nat.lt_of_lt_of_le (HX.out x hx) HZ.out)
          have hcR : 1 ≤ cR := by rw [hl1] at hR1; exact hR1
          rw [hl1] at x2 HS HK hc hkl ⊢
          clear hlt hlt2
          have HAR := Lib.hid (show Nd.ok wr ((w.heap.size + 1) :: X) ⟨6, ⟨#[]⟩, some ⟨b1, o1, none⟩, cR, 0, 0, .cons k1 l1 d1 mn1 mx1 .nil⟩ from ⟨hcR, hR2, HAR0.out⟩)
          clear hL1 hR4 hR5 hR6 hR7 HAR0 hR1
          go_wp2_with fail
          exact bodyPost_ret (v := (⟨6, ⟨#[]⟩, some ⟨b1, o1, none⟩, cR, 0, 0, .cons k1 l1 d1 mn1 mx1 .nil⟩ : Nd).v) (by simp [results, Tryz.results47, go_sem, z0, z1, z2, z3, z4, Fo.len]) rfl (made_w5 (w := w) (a := ⟨6, ⟨#[]⟩, some ⟨b1, o1, none⟩, cR, 0, 0, .cons k1 l1 d1 mn1 mx1 .nil⟩) (show _ = pl1 6 l (plL dn) mn mx by rw [HL1.out]; rfl) HAR.out HB.out (by omega) (.int .i64 6) (.string ⟨#[]⟩) (.slice (some ⟨b1, o1, none⟩) 1 cR) (.int .i64 0) (.int .i64 0))
        · have hl1 : dn.len = 1 := g4 (by decide)
          clear g2 g3 g4 g5 g6
          obtain ⟨AR, cR, rfl, hR1, hR2, hR3⟩ := HS.out.at HX.out
          obtain ⟨k1, l1, d1, mn1, mx1, hL1⟩ := one_of (d := plL dn) (by rw [plL_len]; exact hl1)
          rw [hL1] at hR3
          have HAR0 := Lib.hid hR3
          obtain ⟨b1, o1, K1, c1, rfl, hR4, hcel, hR5, hR6, hR7, _⟩ := hR3
          have hcel2 := hcel
          obtain ⟨e0, e1, e2, e3, e4⟩ := hcel
          have hb1 : b1 < wr.heap.size := cell_lt e0
          have HL1 := Lib.hid hL1
          have HOE := Lib.hid (show Nd.ok wr ((w.heap.size + 1) :: X) ⟨k1, l1, K1, c1, mn1, mx1, d1⟩ from ⟨hR5, hR6, hR7⟩)
          have HXL := Lib.hid (show ∀ x ∈ (w.heap.size + 1) :: X, x < wr.heap.size from fun x hx => Nat.lt_of_lt_of_le (HX.out x hx) HZ.out)
          have hcR : 1 ≤ cR := by rw [hl1] at hR1; exact hR1
          rw [hl1] at x2 HS HK hc hkl ⊢
          clear hlt hlt2
          have HAR := Lib.hid (show Nd.ok wr ((w.heap.size + 1) :: X) ⟨6, ⟨#[]⟩, some ⟨b1, o1, none⟩, cR, 0, 0, .cons k1 l1 d1 mn1 mx1 .nil⟩ from ⟨hcR, hR2, HAR0.out⟩)
          clear hL1 hR4 hR5 hR6 hR7 HAR0 hR1
          have HTW := Lib.hid (rrow_two 4 HOE.out HAR.out HXL.out)
          simp only [Fo.len] at HTW
          have HAL := Lib.hid (fun o : Obj => (show Below wr.heap.size wr (wr.alloc o) from (Below.refl _ _).alloc (Nat.le_refl _) o))
          go_wp2_with (first | (go_at_call 81; (with_reducible refine (HTW.out).mono ?_); rintro e w9 ⟨⟨k9, l9, A9, c9, mn9, mx9, d9⟩, rfl, hfo9, hok9, hb9⟩; have HF9 := Lib.hid hfo9; have HO9 := Lib.hid hok9; have HB9 := Lib.hid hb9; clear hfo9 hok9 hb9; have HB9b := Lib.hid (bt (HAL.out _) HB9.out (HAL.out _).size); obtain ⟨⟨r0, r1, r2, r3, r4⟩, s0, s1, s2, s3, s4⟩ := bx_all (HR.out.below HB9b.out)))
          exact bodyPost_ret (v := (⟨k9, l9, A9, c9, mn9, mx9, d9⟩ : Nd).v) (by simp [results, Tryz.results47, go_sem, r0, r1, r2, r3, r4]) rfl (made_w5 (HF9.out.trans (by rw [HL1.out]; rfl)) HO9.out (bt HB.out HB9b.out HB.out.size) (by omega) _ _ _ _ _)
        · have hl1 : dn.len = 1 := g4 (by decide)
          clear g2 g3 g4 g5 g6
          obtain ⟨AR, cR, rfl, hR1, hR2, hR3⟩ := HS.out.at HX.out
          obtain ⟨k1, l1, d1, mn1, mx1, hL1⟩ := one_of (d := plL dn) (by rw [plL_len]; exact hl1)
          rw [hL1] at hR3
          have HAR0 := Lib.hid hR3
          obtain ⟨b1, o1, K1, c1, rfl, hR4, hcel, hR5, hR6, hR7, _⟩ := hR3
          have hcel2 := hcel
          obtain ⟨e0, e1, e2, e3, e4⟩ := hcel
          have hb1 : b1 < wr.heap.size := cell_lt e0
          have HL1 := Lib.hid hL1
          have HOE := Lib.hid (show Nd.ok wr ((w.heap.size + 1) :: X) ⟨k1, l1, K1, c1, mn1, mx1, d1⟩ from ⟨hR5, hR6, hR7⟩)
          have HXL := Lib.hid (show ∀ x ∈ (w.heap.size + 1) :: X, x < wr.heap.size from fun x hx => Nat.lt_of_lt_of_le (HX.out x hx) HZ.out)
          have hcR : 1 ≤ cR := by rw [hl1] at hR1; exact hR1
          rw [hl1] at x2 HS HK hc hkl ⊢
          clear hlt hlt2
          have HAR := Lib.hid (show Nd.ok wr ((w.heap.size + 1) :: X) ⟨6, ⟨#[]⟩, some ⟨b1, o1, none⟩, cR, 0, 0, .cons k1 l1 d1 mn1 mx1 .nil⟩ from ⟨hcR, hR2, HAR0.out⟩)
          clear hL1 hR4 hR5 hR6 hR7 HAR0 hR1
          have HST := Lib.hid (rtail_n 0 ⟨k1, l1, K1, c1, mn1, mx1, d1⟩ ((w.heap.size + 1) :: X) wr HOE.out HXL.out (by decide))
          unfold Nd.v at HST
          simp only [Int.natCast_zero, Int.zero_add] at HST
          go_wp2_with (first | (go_at_call 82; (with_reducible refine (HST.out).mono ?_); rintro e w9 ⟨⟨k9, l9, A9, c9, mn9, mx9, d9⟩, rfl, hfo9, hok9, hb9⟩; have HF9 := Lib.hid hfo9; have HO9 := Lib.hid hok9; have HB9 := Lib.hid hb9; clear hfo9 hok9 hb9; obtain ⟨⟨r0, r1, r2, r3, r4⟩, s0, s1, s2, s3, s4⟩ := bx_all (HR.out.below HB9.out)))
          exact bodyPost_ret (v := (⟨k9, l9, A9, c9, mn9, mx9, d9⟩ : Nd).v) (by simp [results, Tryz.results47, go_sem, r0, r1, r2, r3, r4]) rfl (made_w5 (HF9.out.trans (by rw [HL1.out]; rfl)) HO9.out (bt HB.out HB9.out HB.out.size) (by omega) _ _ _ _ _)
        · have hl1 : dn.len = 1 := g4 (by decide)
          have hmm := g6 rfl
          clear g2 g3 g4 g5 g6
          obtain ⟨AR, cR, rfl, hR1, hR2, hR3⟩ := HS.out.at HX.out
          obtain ⟨k1, l1, d1, mn1, mx1, hL1⟩ := one_of (d := plL dn) (by rw [plL_len]; exact hl1)
          rw [hL1] at hR3
          have HAR0 := Lib.hid hR3
          obtain ⟨b1, o1, K1, c1, rfl, hR4, hcel, hR5, hR6, hR7, _⟩ := hR3
          have hcel2 := hcel
          obtain ⟨e0, e1, e2, e3, e4⟩ := hcel
          have hb1 : b1 < wr.heap.size := cell_lt e0
          have HL1 := Lib.hid hL1
          have HOE := Lib.hid (show Nd.ok wr ((w.heap.size + 1) :: X) ⟨k1, l1, K1, c1, mn1, mx1, d1⟩ from ⟨hR5, hR6, hR7⟩)
          have HXL := Lib.hid (show ∀ x ∈ (w.heap.size + 1) :: X, x < wr.heap.size from fun x hx => Nat.lt_of_lt_of_le (HX.out x hx) HZ.out)
          have hcR : 1 ≤ cR := by rw [hl1] at hR1; exact hR1
          rw [hl1] at x2 HS HK hc hkl ⊢
          clear hlt hlt2
          have HAR := Lib.hid (show Nd.ok wr ((w.heap.size + 1) :: X) ⟨6, ⟨#[]⟩, some ⟨b1, o1, none⟩, cR, 0, 0, .cons k1 l1 d1 mn1 mx1 .nil⟩ from ⟨hcR, hR2, HAR0.out⟩)
          clear hL1 hR4 hR5 hR6 hR7 HAR0 hR1
          obtain ⟨M, rfl⟩ := Int.eq_ofNat_of_zero_le hmm.1
          have hM8 : M ≤ 8 := by omega
          have HEC := Lib.hid (show ∀ w5, Below wr.heap.size wr w5 → Cel w5 b1 o1 k1 l1 K1 d1.len c1 mn1 mx1 from fun w5 hb => Cel.keep hcel2 (hb.block b1 hb1))
          have HXW := Lib.hid (show ∀ x ∈ (w.heap.size + 1) :: X, x < wr.heap.size from HXL.out)
          have HPL := Lib.hid (show ∀ F, F = repL (.cons k1 l1 d1 mn1 mx1 .nil) (M : Int) mx → rowF 4 F = pl1 9 l (plL dn) (M : Int) mx from fun F hF => by rw [hF, HL1.out]; rfl)
          clear e0 e1 e2 e3 e4 hcel2 HS HL1 HXL
          generalize wr = w0 at *
          have HS0 := Lib.hid (RowN.none w0 w0.heap.size ((w.heap.size + 1) :: X))
          have HMM := Lib.hid hmm
          clear hmm
          go_wp2_with fail
          go_loopw [5, 6] (fun lv iv wr => ∃ q : Nat, iv = .int .i64 q ∧ q ≤ M ∧ Hid (RowN wr w0.heap.size ((w.heap.size + 1) :: X) lv q (rept q (.cons k1 l1 d1 mn1 mx1 .nil))) ∧ Hid (Below w0.heap.size w0 wr)) (fun _ iv _ => M - (RowKit.intOf iv).toNat)
          case atStart => exact ⟨0, rfl, Nat.zero_le _, HS0, Lib.hid (Below.refl _ _)⟩
          case round =>
            obtain ⟨q, rfl, hqM, HS9, HBW⟩ := hrel
            obtain ⟨e0, e1, e2, e3, e4⟩ := HEC.out wr HBW.out
            have HK9 := Lib.hid (HK.out.below HBW.out)
            have HR9 := Lib.hid (HR.out.below HBW.out)
            obtain ⟨⟨x0, x1, x2, x3, x4⟩, y0, y1, y2, y3, y4⟩ := bx_all HK9.out
            have HZW := Lib.hid HBW.out.size
            have hb1r : b1 < wr.heap.size := Nat.lt_of_lt_of_le hb1 HBW.out.size
            have HOK := Lib.hid ((ok_grow HOE.out (fresh0 HS9.out)).below HBW.out)
            have HOK6 := Lib.hid ((ok_grow HAR.out (fresh0 HS9.out)).below HBW.out)
            by_cases hq : q < M
            · have hqi : (q : Int) < (M : Int) := by omega
              go_wp2_with (obtain ⟨cs8, hown8, hcs8⟩ := HS9.out.own; have HCS8 := Lib.hid hcs8; have HOWN8 := Lib.hid (hown8.alloc (obj5 k1 l1 K1 d1.len c1 mn1 mx1)); clear hown8 hcs8; refine wpList_append_own_at _ rfl (.tmp 67) (.tmp 71) 22 rfl (w0.heap.size) 24 iP _ 5 64 Tryz.underlying22 hi hz0 hz1 hz2 rfl (by decide) u5 (q) cs8 rfl HOWN8.out ⟨(wr).heap.size, 0, none⟩ 1 1 [.int .i64 k1, .string l1, .slice K1 d1.len c1, .int .i64 mn1, .int .i64 mx1] rfl rfl (lit5 (wr) _ _ _ _ _ _) (csl_one _ _ _ _ _ _ _) (by unfold maxLen; omega) (by omega) (by have := HZW.out; simp; omega) ?_; intro v8 w8 hown8 hgrow8 _ hat8; obtain ⟨HS8, HB8, HZ8⟩ := HS9.out.push_all k1 l1 K1 c1 mn1 mx1 d1 HOK.out HCS8.out HZW.out hown8 hgrow8 hat8; clear hown8 hgrow8 hat8)
              exact ⟨⟨q + 1, by go_num, by omega, by rw [rept_snoc]; exact HS8, Lib.hid (bt HBW.out HB8.out (Nat.le_refl _))⟩, by simp [RowKit.intOf] <;> omega⟩
            · have hqi : ¬ (q : Int) < (M : Int) := by omega
              obtain rfl : q = M := by omega
              by_cases hm1 : mx = -1
              · subst hm1
                have HE := Lib.hid (HPL.out _ (show (rept q (.cons k1 l1 d1 mn1 mx1 .nil)).app (starF (.cons k1 l1 d1 mn1 mx1 .nil)) = repL (.cons k1 l1 d1 mn1 mx1 .nil) (q : Int) (-1) by unfold repL; rw [if_pos rfl]; rfl))
                go_wp2_with (first
                  | (obtain ⟨cs8, hown8, hcs8⟩ := HS9.out.own; have HCS8 := Lib.hid hcs8; have HOWN8 := Lib.hid (hown8.alloc (obj5 6 ⟨#[]⟩ (some ⟨b1, o1, none⟩) 1 cR 0 0)); clear hown8 hcs8; refine wpList_append_own_at _ rfl (.tmp 76) (.tmp 79) 22 rfl (w0.heap.size) 24 iP _ 5 64 Tryz.underlying22 hi hz0 hz1 hz2 rfl (by decide) u5 (q) cs8 rfl HOWN8.out ⟨(wr).heap.size, 0, none⟩ 1 1 [.int .i64 6, .string ⟨#[]⟩, .slice (some ⟨b1, o1, none⟩) 1 cR, .int .i64 0, .int .i64 0] rfl rfl (lit5 (wr) _ _ _ _ _ _) (csl_one _ _ _ _ _ _ _) (by unfold maxLen; omega) (by omega) (by have := HZW.out; simp; omega) ?_; intro v8 w8 hown8 hgrow8 _ hat8; obtain ⟨HS8, HB8, HZ8⟩ := HS9.out.push_all 6 ⟨#[]⟩ (some ⟨b1, o1, none⟩) cR 0 0 (.cons k1 l1 d1 mn1 mx1 .nil) HOK6.out HCS8.out HZW.out hown8 hgrow8 hat8; clear hown8 hgrow8 hat8)
                  | (go_at_call 81; (with_reducible refine (rrow_rowN 4 HS8.out HXW.out (Nat.le_trans HZW.out HZ8.out)).mono ?_); rintro e w9 ⟨⟨k9, l9, A9, c9, mn9, mx9, d9⟩, rfl, hfo9, hok9, hb9⟩; have HF9 := Lib.hid hfo9; have HO9 := Lib.hid hok9; have HB9 := Lib.hid hb9; clear hfo9 hok9 hb9; obtain ⟨⟨r0, r1, r2, r3, r4⟩, s0, s1, s2, s3, s4⟩ := bx_all ((HR9.out.at_below HB8.out (by omega)).below HB9.out)))
                exact bodyPost_ret (v := (⟨k9, l9, A9, c9, mn9, mx9, d9⟩ : Nd).v) (by simp [results, Tryz.results47, go_sem, r0, r1, r2, r3, r4]) rfl (made_w5 (HF9.out.trans HE.out) HO9.out (bt (bt (bt HB.out HBW.out HB.out.size) HB8.out (by omega)) HB9.out (Nat.le_trans (Nat.le_trans HB.out.size HZW.out) HZ8.out)) (by omega) _ _ _ _ _)
              · have tm1 : (mx == -1) = false := by rw [beq_eq_false_iff_ne]; exact hm1
                by_cases hgt : (q : Int) < mx
                · obtain ⟨t, ht⟩ : ∃ t : Nat, mx = (q : Int) + 1 + t := ⟨(mx - q - 1).toNat, by omega⟩
                  have hmm := HMM.out
                  have tw : IntKind.i64.wrap (mx - (q : Int)) = (t : Int) + 1 := (IntWalk.i64_in _ ⟨by omega, by omega⟩).trans (by omega)
                  have HE := Lib.hid (HPL.out _ (show (rept q (.cons k1 l1 d1 mn1 mx1 .nil)).app (tailF t (.cons k1 l1 d1 mn1 mx1 .nil)) = repL (.cons k1 l1 d1 mn1 mx1 .nil) (q : Int) mx by unfold repL; rw [if_neg hm1, if_pos hgt, show (mx - (q : Int) - 1).toNat = t by omega]; rfl))
                  have HST := Lib.hid (rtail_n t ⟨k1, l1, K1, c1, mn1, mx1, d1⟩ (vb u5 ++ (w.heap.size + 1) :: X) wr.drew (HOK.out.below (Below.refl _ _).drew) (lt_of (HS9.out.below (Below.refl _ wr).drew) HXW.out HZW.out) (by omega))
                  unfold Nd.v at HST
                  simp only at HST
                  have HS5 := Lib.hid (HS9.out.below (Below.refl _ wr).drew)
                  have HR5 := Lib.hid (HR9.out.below (Below.refl _ wr).drew)
                  have HB5 := Lib.hid (bt (bt HB.out HBW.out HB.out.size) (Below.refl _ wr).drew (Nat.le_trans HB.out.size HZW.out))
                  have HZ5 := Lib.hid (show w0.heap.size ≤ wr.drew.heap.size from HZW.out)
                  clear hmm ht
                  go_wp2_with fail
                  go_region_law (first
                    | (go_simp; go_at_call 82; (with_reducible refine (HST.out).mono ?_); rintro e w2 ⟨⟨k2, l2, A2, c2, mn2, mx2, d2⟩, rfl, hfo2, hok2, hb2⟩; have HF2 := Lib.hid hfo2; have HO2 := Lib.hid hok2; have HB2 := Lib.hid hb2; clear hfo2 hok2 hb2; have HS2 := Lib.hid (HS5.out.below HB2.out); have HZ2 := Lib.hid (Nat.le_trans HZ5.out HB2.out.size); obtain ⟨cs8, hown8, hcs8⟩ := HS2.out.own; have HCS8 := Lib.hid hcs8; have HOWN8 := Lib.hid (hown8.alloc (obj5 k2 l2 A2 d2.len c2 mn2 mx2)); clear hown8 hcs8)
                    | (refine step_append_any _ rfl (.tmp 86) (.tmp 96) 22 rfl (w0.heap.size) 24 iP _ 5 64 Tryz.underlying22 hi hz0 hz1 hz2 rfl (by decide) u5 q cs8 rfl HOWN8.out (w2.heap.size + 1) (some ⟨w2.heap.size, 0, none⟩) 1 1 [.int .i64 k2, .string l2, .slice A2 d2.len c2, .int .i64 mn2, .int .i64 mx2] rfl (reads5 w2 _ _ _ _ _ _) (csl_one _ _ _ _ _ _ _) (by unfold maxLen; omega) (by omega) (by have := HZ2.out; simp; omega) ?_; intro v8 w8 hown8 hgrow8 hat8; obtain ⟨HS8, HB8, HZ8⟩ := HS2.out.push_all k2 l2 A2 c2 mn2 mx2 d2 HO2.out HCS8.out HZ2.out hown8 hgrow8 hat8; clear hown8 hgrow8 hat8))
                  all_goals
                    go_wp2_with (go_at_call 81; (with_reducible refine (rrow_rowN 4 HS8.out HXW.out (Nat.le_trans HZ2.out HZ8.out)).mono ?_); rintro e w9 ⟨⟨k9, l9, A9, c9, mn9, mx9, d9⟩, rfl, hfo9, hok9, hb9⟩; have HF9 := Lib.hid hfo9; have HO9 := Lib.hid hok9; have HB9 := Lib.hid hb9; clear hfo9 hok9 hb9; obtain ⟨⟨r0, r1, r2, r3, r4⟩, s0, s1, s2, s3, s4⟩ := bx_all (((HR5.out.below HB2.out).at_below HB8.out (by omega)).below HB9.out))
                    have HF2b := HF2.out
                    unfold Nd.fo at HF2b
                    exact bodyPost_ret (v := (⟨k9, l9, A9, c9, mn9, mx9, d9⟩ : Nd).v) (by simp [results, Tryz.results47, go_sem, r0, r1, r2, r3, r4]) rfl (made_w5 (HF9.out.trans (by rw [← HE.out, ← HF2b])) HO9.out (bt (bt (bt HB5.out HB2.out HB5.out.size) HB8.out (by omega)) HB9.out (Nat.le_trans (Nat.le_trans HB5.out.size HB2.out.size) HZ8.out)) (by omega) _ _ _ _ _)
                · have hgn : ¬ ((q : Int) < mx) := hgt
                  have HE := Lib.hid (HPL.out _ (show (rept q (.cons k1 l1 d1 mn1 mx1 .nil)) = repL (.cons k1 l1 d1 mn1 mx1 .nil) (q : Int) mx by unfold repL; rw [if_neg hm1, if_neg hgt, Fo.app_nil]; rfl))
                  go_wp2_with (first
                    | (go_at_call 81; (with_reducible refine (rrow_rowN 4 HS9.out HXW.out HZW.out).mono ?_); rintro e w9 ⟨⟨k9, l9, A9, c9, mn9, mx9, d9⟩, rfl, hfo9, hok9, hb9⟩; have HF9 := Lib.hid hfo9; have HO9 := Lib.hid hok9; have HB9 := Lib.hid hb9; clear hfo9 hok9 hb9; obtain ⟨⟨r0, r1, r2, r3, r4⟩, s0, s1, s2, s3, s4⟩ := bx_all (HR9.out.below HB9.out)))
                  exact bodyPost_ret (v := (⟨k9, l9, A9, c9, mn9, mx9, d9⟩ : Nd).v) (by simp [results, Tryz.results47, go_sem, r0, r1, r2, r3, r4]) rfl (made_w5 (HF9.out.trans HE.out) HO9.out (bt (bt HB.out HBW.out HB.out.size) HB9.out (Nat.le_trans HB.out.size HZW.out)) (by omega) _ _ _ _ _)
end Go.Proofs.YtpaehicfndkliaaGreatDoor.De


/- The walk of the document's 'Plain'. Condition: the path can be read; it is not too great. -/
namespace Go.Proofs.YtpaehicfndkliaaGreatDoor.De
open Go.RowKit Go.Lib Na Go.PN Pa

set_option maxRecDepth 100000 in
set_option maxHeartbeats 4000000 in
/-- The document's 'Plain' is the program's. -/
theorem rPlain_any (a : Nd) (X : List Nat) (w : World) (h : a.ok w X) (hlb : Lb (a.fo .nil)) (hs : a.kids.sz ≤ 1000000) (hX : ∀ x ∈ X, x < w.heap.size) : Calls Tryz.prog 20 #[a.v] w (PlainP w X (plainR a.k a.l a.kids a.mn a.mx)) := by
  have HC := Lib.hid (fun (w1 : World) (hb : Below w.heap.size w w1) => rCheck_any a X w1 (h.below hb) hlb hs)
  have HZ := Lib.hid (show ∀ o1 : Obj, Bx ((w.alloc o1).alloc obj50) (w.heap.size + 1) (.int .i64 0) (.string ⟨#[]⟩) (.slice none 0 0) (.int .i64 0) (.int .i64 0) from fun o1 => by
    have := Bx.new (w.alloc o1) (.int .i64 0) (.string ⟨#[]⟩) (.slice none 0 0) (.int .i64 0) (.int .i64 0) 24
    simpa using this)
  have HY := Lib.hid ((Bx.new w (.int .i64 a.k) (.string a.l) (.slice a.A a.kids.len a.c) (.int .i64 a.mn) (.int .i64 a.mx) 24).al obj50)
  have HB := Lib.hid (show ∀ o1 o2 : Obj, Below w.heap.size w ((w.alloc o1).alloc o2) from fun o1 o2 => ((Below.refl _ w).alloc (by simp) o1).alloc (by simp) o2)
  have HS := Lib.hid (show ∀ o1 o2 : Obj, ((w.alloc o1).alloc o2).heap.size = w.heap.size + 2 from fun o1 o2 => by simp)
  by_cases h0 : checkE a.k a.l a.kids a.mn a.mx = 0
  · have HE := Lib.hid (show plainR a.k a.l a.kids a.mn a.mx = (pl1 a.k a.l (plL a.kids) a.mn a.mx, 0) from if_pos h0)
    obtain ⟨hv, hd, hs2, hz⟩ := check_zero h0
    rw [h0] at HC
    have HP := Lib.hid (fun (w1 : World) (hb : Below w.heap.size w w1) (hz1 : w.heap.size + 2 ≤ w1.heap.size) => rplain_n (a.kids.sz + 1) a ((w.heap.size + 1) :: X) w1 (by omega) (by omega) hv ((ok_grow h (fun y hy => by
      rcases List.mem_cons.1 hy with rfl | hy
      · exact Or.inr (by omega)
      · exact Or.inl hy)).below hb) (fun x hx => by
      rcases List.mem_cons.1 hx with rfl | hx
      · omega
      · have := hX x hx; omega))
    unfold Nd.v at *
    clear h hlb hs hX hv hd hs2 hz h0
    go_enter Tryz.func20, Tryz.ntmps20
    go_wp2_with (first
      | (go_at_call 8; (with_reducible refine (HC.out _ (HB.out _ _)).mono ?_); rintro e w1 ⟨rfl, hb1⟩; have HB1 := Lib.hid ((HB.out (obj5 a.k a.l a.A a.kids.len a.c a.mn a.mx) obj50).trans (hb1.mono (by rw [HS.out]; omega))); have HS1 := Lib.hid (show w.heap.size + 2 ≤ w1.heap.size by have := hb1.size; rw [HS.out] at this; exact this); have HZ1 := Lib.hid ((HZ.out (obj5 a.k a.l a.A a.kids.len a.c a.mn a.mx)).below hb1); have HY1 := Lib.hid (HY.out.below hb1); obtain ⟨⟨x0, x1, x2, x3, x4⟩, y0, y1, y2, y3, y4⟩ := bx_all HY1.out; clear hb1)
      | (go_at_call 47; (with_reducible refine (HP.out _ HB1.out HS1.out).mono ?_); rintro e w3 ⟨⟨k3, l3, A3, c3, mn3, mx3, d3⟩, rfl, hfo3, hok3, hb3⟩; have HF3 := Lib.hid hfo3; have HO3 := Lib.hid hok3; have HB3 := Lib.hid hb3; clear hfo3 hok3 hb3; obtain ⟨⟨r0, r1, r2, r3, r4⟩, s0, s1, s2, s3, s4⟩ := bx_all (HZ1.out.below HB3.out)))
    exact bodyPost_ret (v := .tuple #[(⟨k3, l3, A3, c3, mn3, mx3, d3⟩ : Nd).v, .int .i64 0]) (by simp [results, Tryz.results20, go_sem, r0, r1, r2, r3, r4]) rfl (by
      rw [HE.out]
      exact ⟨⟨k3, l3, A3, c3, mn3, mx3, d3⟩, rfl, HF3.out, (ok_w5 HO3.out (by simp)).less (fun y hy => List.mem_cons_of_mem _ hy), below_w5 (bt HB1.out HB3.out HB1.out.size) (by omega)⟩)
  · have HE := Lib.hid (show plainR a.k a.l a.kids a.mn a.mx = (zerF, checkE a.k a.l a.kids a.mn a.mx) from if_neg h0)
    have h0' : (checkE a.k a.l a.kids a.mn a.mx != 0) = true := by rw [bne_iff_ne]; exact h0
    generalize checkE a.k a.l a.kids a.mn a.mx = E at *
    unfold Nd.v at *
    clear h hlb hs hX h0
    go_enter Tryz.func20, Tryz.ntmps20
    go_wp2_with (first
      | (go_at_call 8; (with_reducible refine (HC.out _ (HB.out _ _)).mono ?_); rintro e w1 ⟨rfl, hb1⟩; have HB1 := Lib.hid ((HB.out (obj5 a.k a.l a.A a.kids.len a.c a.mn a.mx) obj50).trans (hb1.mono (by rw [HS.out]; omega))); have HZ1 := Lib.hid ((HZ.out (obj5 a.k a.l a.A a.kids.len a.c a.mn a.mx)).below hb1); clear hb1; obtain ⟨⟨r0, r1, r2, r3, r4⟩, s0, s1, s2, s3, s4⟩ := bx_all HZ1.out))
    exact bodyPost_ret (v := .tuple #[(⟨0, ⟨#[]⟩, none, 0, 0, 0, .nil⟩ : Nd).v, .int .i64 E]) (by simp [results, Tryz.results20, go_sem, r0, r1, r2, r3, r4, Fo.len]) rfl (by
      rw [HE.out]
      exact ⟨⟨0, ⟨#[]⟩, none, 0, 0, 0, .nil⟩, rfl, rfl, ⟨Nat.le_refl _, Nat.zero_le _, trivial⟩, below_w5 HB1.out (by omega)⟩)
end Go.Proofs.YtpaehicfndkliaaGreatDoor.De
