import Derived.Test.YtpaehicfndkliaaGreatDoorDf

/- The walks of 'Clone', 'own', 'Plain'. Condition: the path can be read. -/
namespace Go.Proofs.YtpaehicfndkliaaGreatDoor.De
open Go.RowKit Go.Lib Na Go.PN Pa

/-- A row lies in block g from cell o on; its kids lie in none of X, nor in g. -/
def RowAt (w : World) (X : List Nat) (g : Nat) : Nat → Fo → Prop
  | _, .nil => True
  | o, .cons k l d mn mx r => ∃ (K : Option Addr) (c : Nat), Cel w g o k l K d.len c mn mx ∧ d.len ≤ c ∧ c ≤ 9223372036854775807 ∧ At w (g :: X) d K ∧ RowAt w X g (o + 5) r
section
variable {w w' : World} {X : List Nat} {g o : Nat} {f h : Fo}
theorem RowAt.app : RowAt w X g o (f.app h) ↔ RowAt w X g o f ∧ RowAt w X g (o + f.len * 5) h := by
  induction f generalizing o with
  | nil => simp [Fo.app, Fo.len, RowAt]
  | cons k l d mn mx r _ ih =>
    simp only [Fo.app, RowAt, ih, Fo.len]
    rw [show o + 5 + r.len * 5 = o + (r.len + 1) * 5 from by omega]
    constructor
    · rintro ⟨K, c, h1, h2, h3, h4, h5, h6⟩; exact ⟨⟨K, c, h1, h2, h3, h4, h5⟩, h6⟩
    · rintro ⟨⟨K, c, h1, h2, h3, h4, h5⟩, h6⟩; exact ⟨K, c, h1, h2, h3, h4, h5, h6⟩
theorem RowAt.keep (hr : RowAt w X g o f) (hc : ∀ j, o ≤ j → j < o + f.len * 5 → w'.cell? ⟨g, j, none⟩ = w.cell? ⟨g, j, none⟩) (hk : ∀ b, b < w.heap.size → b ∉ g :: X → w'.heap[b]? = w.heap[b]?) : RowAt w' X g o f := by
  induction f generalizing o with
  | nil => trivial
  | cons k l d mn mx r _ ih =>
    obtain ⟨K, c, ⟨a0, a1, a2, a3, a4⟩, h2, h3, h4, h5⟩ := hr
    simp only [Fo.len] at hc
    exact ⟨K, c, ⟨(hc _ (by omega) (by omega)).trans a0, (hc _ (by omega) (by omega)).trans a1, (hc _ (by omega) (by omega)).trans a2, (hc _ (by omega) (by omega)).trans a3, (hc _ (by omega) (by omega)).trans a4⟩, h2, h3, h4.keep hk, ih h5 (fun j h6 h7 => hc j (by omega) (by omega))⟩
theorem RowAt.below (hr : RowAt w X g o f) (hg : g < w.heap.size) (hb : Below w.heap.size w w') : RowAt w' X g o f :=
  hr.keep (fun j _ _ => World.cell?_of_block (w := w) (hb.block g hg)) (fun b h1 _ => hb.block b h1)
theorem RowAt.at (hr : RowAt w X g o f) (hX : g ∉ X) : At w X f (some ⟨g, o, none⟩) := by
  induction f generalizing o with
  | nil => trivial
  | cons k l d mn mx r _ ih =>
    obtain ⟨K, c, h1, h2, h3, h4, h5⟩ := hr
    exact ⟨g, o, K, c, rfl, hX, h1, h2, h3, h4.less (fun y hy => List.mem_cons_of_mem _ hy), ih h5⟩
theorem csl_row {cs : List Value} (h : Csl w (g :: X) f cs) (hc : ∀ j u, cs[j]? = some u → w.cell? ⟨g, o + j, none⟩ = some u) : RowAt w X g o f := by
  induction f generalizing cs o with
  | nil => trivial
  | cons k l d mn mx r _ ih =>
    obtain ⟨K, c, cs', rfl, h1, h2, h3, h4⟩ := h
    refine ⟨K, c, ⟨hc 0 _ rfl, hc 1 _ rfl, hc 2 _ rfl, hc 3 _ rfl, hc 4 _ rfl⟩, h1, h2, h3, ih h4 (fun j u hj => ?_)⟩
    rw [show o + 5 + j = o + (j + 5) from by omega]
    exact hc (j + 5) u hj
end
theorem csl_cells {w : World} {X : List Nat} {f : Fo} {cs : List Value} (h : Csl w X f cs) : ∀ u ∈ cs, u.oneCell' = true := by
  induction f generalizing cs with
  | nil => rw [show cs = [] from h]; intro u hu; cases hu
  | cons k l d mn mx r _ ih =>
    obtain ⟨K, c, cs', rfl, h1, h2, h3, h4⟩ := h
    intro u hu
    simp only [List.mem_cons] at hu
    rcases hu with rfl | rfl | rfl | rfl | rfl | hu
    · rfl
    · rfl
    · rfl
    · rfl
    · rfl
    · exact ih h4 u hu
/-- Five cells of a row are written. -/
abbrev puto (w : World) (b o : Nat) (v0 v1 v2 v3 v4 : Value) : World := ((((w.setCell ⟨b, o, none⟩ v0).setCell ⟨b, o + 1, none⟩ v1).setCell ⟨b, o + 2, none⟩ v2).setCell ⟨b, o + 3, none⟩ v3).setCell ⟨b, o + 4, none⟩ v4
section
variable {w : World} {X : List Nat} {g o : Nat} {v0 v1 v2 v3 v4 u0 u1 u2 u3 u4 : Value}
theorem puto_cell (j : Nat) (h : j < o ∨ o + 5 ≤ j) : (puto w g o v0 v1 v2 v3 v4).cell? ⟨g, j, none⟩ = w.cell? ⟨g, j, none⟩ := by
  have e : ∀ (w : World) (i : Nat) (v : Value), i ≠ j → (w.setCell ⟨g, i, none⟩ v).cell? ⟨g, j, none⟩ = w.cell? ⟨g, j, none⟩ := fun w i v hi => by
    go_simp
  unfold puto
  rw [e _ _ _ (by omega), e _ _ _ (by omega), e _ _ _ (by omega), e _ _ _ (by omega), e _ _ _ (by omega)]
theorem puto_cel {k : Int} {l : ByteArray} {A : Option Addr} {n c : Nat} {mn mx : Int} (h0 : w.cell? ⟨g, o, none⟩ = some u0) (h1 : w.cell? ⟨g, o + 1, none⟩ = some u1) (h2 : w.cell? ⟨g, o + 2, none⟩ = some u2) (h3 : w.cell? ⟨g, o + 3, none⟩ = some u3) (h4 : w.cell? ⟨g, o + 4, none⟩ = some u4) (hf : ∀ j, w.frozen? ⟨g, j, none⟩ = false) :
    Cel (puto w g o (.int .i64 k) (.string l) (.slice A n c) (.int .i64 mn) (.int .i64 mx)) g o k l A n c mn mx := by
  have f0 := hf o; have f1 := hf (o + 1); have f2 := hf (o + 2); have f3 := hf (o + 3); have f4 := hf (o + 4)
  refine ⟨?_, ?_, ?_, ?_, ?_⟩ <;> go_simp
theorem puto_heap (b : Nat) (h : b ≠ g) : (puto w g o v0 v1 v2 v3 v4).heap[b]? = w.heap[b]? := by
  unfold puto
  rw [Below.heap_setCell _ _ _ _ h, Below.heap_setCell _ _ _ _ h, Below.heap_setCell _ _ _ _ h, Below.heap_setCell _ _ _ _ h, Below.heap_setCell _ _ _ _ h]
theorem puto_frozen (h : ∀ j, w.frozen? ⟨g, j, none⟩ = false) (j : Nat) : (puto w g o v0 v1 v2 v3 v4).frozen? ⟨g, j, none⟩ = false := by
  have := h j
  go_simp
theorem puto_below {B : Nat} {a : World} (h : Below B a w) (hb : B ≤ g) : Below B a (puto w g o v0 v1 v2 v3 v4) :=
  ((((h.setCell (p := ⟨g, o, none⟩) hb _).setCell (p := ⟨g, o + 1, none⟩) hb _).setCell (p := ⟨g, o + 2, none⟩) hb _).setCell (p := ⟨g, o + 3, none⟩) hb _).setCell (p := ⟨g, o + 4, none⟩) hb _
theorem puto_size : (puto w g o v0 v1 v2 v3 v4).heap.size = w.heap.size := by simp [World.setCell]
end
/-- One path of a row is put in anew: the same one, elsewhere in memory. -/
theorem RowAt.put {w : World} {X : List Nat} {g q : Nat} {dn r : Fo} {k : Int} {l : ByteArray} {d : Fo} {mn mx : Int} (h : RowAt w X g 0 (dn.app (.cons k l d mn mx r))) (hq : dn.len = q) {A : Option Addr} {c : Nat} (ha : Nd.ok w (g :: X) ⟨k, l, A, c, mn, mx, d⟩) (hf : ∀ j, w.frozen? ⟨g, j, none⟩ = false) :
    RowAt (puto w g (q * 5) (.int .i64 k) (.string l) (.slice A d.len c) (.int .i64 mn) (.int .i64 mx)) X g 0 (dn.app (.cons k l d mn mx r)) := by
  rw [RowAt.app] at h ⊢
  rw [Nat.zero_add, hq] at h ⊢
  obtain ⟨h1, K, c', ⟨a0, a1, a2, a3, a4⟩, h2, h3, h4, h5⟩ := h
  have hk : ∀ b, b < w.heap.size → b ∉ g :: X → (puto w g (q * 5) (.int .i64 k) (.string l) (.slice A d.len c) (.int .i64 mn) (.int .i64 mx)).heap[b]? = w.heap[b]? := fun b _ hb => puto_heap b (fun e => hb (by simp [e]))
  refine ⟨h1.keep (fun j _ hj => puto_cell j (by omega)) hk, A, c, puto_cel a0 a1 a2 a3 a4 hf, ha.1, ha.2.1, ha.2.2.keep hk, h5.keep (fun j hj _ => puto_cell j (by omega)) hk⟩

/-- The cells at one path's place hold something. -/
theorem row_cells {w : World} {X : List Nat} {g q : Nat} {f dn r : Fo} {k : Int} {l : ByteArray} {d : Fo} {mn mx : Int} (e : f = dn.app (.cons k l d mn mx r)) (hq : dn.len = q) (h : RowAt w X g 0 f) :
    ∃ v0 v1 v2 v3 v4, w.cell? ⟨g, q * 5, none⟩ = some v0 ∧ w.cell? ⟨g, q * 5 + 1, none⟩ = some v1 ∧ w.cell? ⟨g, q * 5 + 2, none⟩ = some v2 ∧ w.cell? ⟨g, q * 5 + 3, none⟩ = some v3 ∧ w.cell? ⟨g, q * 5 + 4, none⟩ = some v4 := by
  rw [e, RowAt.app, Nat.zero_add, hq] at h
  obtain ⟨_, K, c, ⟨a0, a1, a2, a3, a4⟩, _⟩ := h
  exact ⟨_, _, _, _, _, a0, a1, a2, a3, a4⟩
set_option maxRecDepth 100000 in
set_option maxHeartbeats 4000000 in
/-- A row's copy: none of none; else a row of the call's own, in block g. -/
theorem clone_any (A : Option Addr) (c : Nat) (f : Fo) (X : List Nat) (w : World) (hf : At w X f A) (h60 : f.len ≤ 1000) (hX : ∀ x ∈ X, x < w.heap.size) :
    Calls Tryz.prog 63 #[.slice A f.len c] w fun e w' => (∃ (A2 : Option Addr) (c2 : Nat), e = .returned (.slice A2 f.len c2) ∧ f.len ≤ c2 ∧ c2 ≤ 9223372036854775807 ∧ (1 ≤ f.len → ∃ g, A2 = some ⟨g, 0, none⟩ ∧ w.heap.size ≤ g ∧ g < w'.heap.size ∧ RowAt w' X g 0 f ∧ ∀ j, w'.frozen? ⟨g, j, none⟩ = false)) ∧ Below w.heap.size w w' := by
  obtain ⟨iP, hi, hz0, hz1, hz2⟩ := iPath
  cases A with
  | none =>
    have h0 : f.len = 0 := by
      cases f with
      | nil => rfl
      | cons => obtain ⟨_, _, _, _, e, _⟩ := hf; cases e
    rw [h0]
    have q22 : ∀ (w : World) (a : Option Addr) (n c n' c' : Nat), (binOp .eql 22 (.slice a n c) (.slice none n' c')).run Tryz.prog w = .ok (.bool a.isNone) w := fun w a n c n' c' => Lib.run_eql_slice_nil w _ _ a n c n' c' Tryz.underlying22
    go_enter Tryz.func63, Tryz.ntmps63
    go_wp2_with fail
    go_ret
    exact ⟨⟨none, 0, rfl, Nat.le_refl _, by decide, fun h => by omega⟩, Below.refl _ _⟩
  | some a =>
    have q22 : ∀ (w : World) (a : Option Addr) (n c n' c' : Nat), (binOp .eql 22 (.slice a n c) (.slice none n' c')).run Tryz.prog w = .ok (.bool a.isNone) w := fun w a n c n' c' => Lib.run_eql_slice_nil w _ _ a n c n' c' Tryz.underlying22
    obtain ⟨cs, hcs, hl, hcell, h1⟩ : ∃ cs, Csl w X f cs ∧ cs.length = f.len * 5 ∧ (∀ j u, cs[j]? = some u → w.cell? (a.add j) = some u) ∧ ∀ u ∈ cs, u.oneCell' = true := by
      cases f with
      | nil => exact ⟨[], rfl, rfl, fun j u hj => by simp at hj, fun u hu => by simp at hu⟩
      | cons k l d mn mx r =>
        obtain ⟨b, o, e⟩ := at_shape hf (by simp [Fo.len])
        injection e with e
        subst e
        obtain ⟨cs, h1, h2, h3⟩ := at_csl hf
        refine ⟨cs, h1, h2, fun j u hj => ?_, csl_cells h1⟩
        rw [Addr.add_lit]
        exact h3 j u hj
    have HC := Lib.hid hcell
    have HL := Lib.hid hl
    have H1 := Lib.hid h1
    have HCS := Lib.hid hcs
    have HXX := Lib.hid hX
    clear hcell hl h1 hcs hf hX
    have hml : f.len ≤ maxLen := by unfold maxLen; omega
    have hbg : f.len * 64 ≤ 140737488355328 := by omega
    obtain ⟨n, hn⟩ : ∃ n, f.len = n := ⟨_, rfl⟩
    have HN := Lib.hid hn
    rw [hn] at HL h60 hml hbg ⊢
    clear hn
    go_enter Tryz.func63, Tryz.ntmps63
    go_wp2_with (at_builtin; refine wpList_append_own _ rfl _ _ 22 rfl w.heap.size 24 iP _ 5 64 Tryz.underlying22 hi hz0 hz1 hz2 rfl (by decide) _ _ _ rfl (World.ownsRow_made w #[] 0 (Nat.le_refl _) (Nat.zero_le _) (by simp)) a n c cs rfl ?qc1 ?qc2 ?qc3 ?qc4 ?qc5 ?qc6 ?_)
    case qc1 => exact HL.out
    case qc2 =>
      intro j u hj
      exact Lib.cell?_alloc_some _ (HC.out j u hj)
    case qc3 => exact H1.out
    case qc4 => rw [Nat.zero_add]; exact hml
    case qc5 => rw [Nat.zero_add]; exact hbg
    case qc6 => simp
    intro v' w1 hown hgrow hnil
    have HO := Lib.hid hown
    have HB := Lib.hid (((Below.refl _ w).alloc (Nat.le_refl _) (.cells #[] 24)).grown hgrow (by simp) (by intro k hk; simp [Value.ownBlock] at hk; omega))
    have HV := Lib.hid hnil
    clear hown hgrow hnil
    go_wp2
    go_ret
    refine ⟨?_, HB.out⟩
    have ho := HO.out
    rcases ho.2 with ⟨e, _⟩ | ⟨g, cap, cur, rfl, h2, h3, h4, h5, h6, h7⟩
    · exact absurd e HV.out
    · refine ⟨some ⟨g, 0, none⟩, cap, rfl, h4, h5, fun hn1 => ⟨g, rfl, h2, (Array.getElem?_eq_some_iff.1 h3).1, ?_, fun j => ?_⟩⟩
      · refine csl_row (o := 0) ((HCS.out.grow (Y := g :: X) (fun y hy => ?_)).below HB.out) (fun j u hj => ?_)
        · rcases List.mem_cons.1 hy with rfl | hy
          · exact Or.inr h2
          · exact Or.inl hy
        · have h8 := ho.cells (g := g) rfl j u hj
          rw [add0] at h8
          rwa [Nat.zero_add]
      · exact ho.frozenAt j
/-- No row is longer than so many. -/
def Wd (m : Nat) : Fo → Prop
  | .nil => True
  | .cons _ _ d _ _ r => d.len ≤ m ∧ Wd m d ∧ Wd m r
theorem Wd.app {m : Nat} {f g : Fo} : Wd m (f.app g) ↔ Wd m f ∧ Wd m g := by
  induction f with
  | nil => simp [Fo.app, Wd]
  | cons k l d mn mx r _ ih => simp only [Fo.app, Wd, ih]; exact ⟨fun ⟨a, b, c, d⟩ => ⟨⟨a, b, c⟩, d⟩, fun ⟨⟨a, b, c⟩, d⟩ => ⟨a, b, c, d⟩⟩
set_option maxRecDepth 100000 in
set_option maxHeartbeats 16000000 in
theorem own_n (n : Nat) : ∀ (a : Nd) (X : List Nat) (w : World), a.kids.sz < n → Wd 1000 (a.fo .nil) → a.ok w X → (∀ x ∈ X, x < w.heap.size) →
    Calls Tryz.prog 33 #[a.v] w (MadeP w X (a.fo .nil)) := by
  induction n with
  | zero => intro a X w hn; omega
  | succ n ih =>
    intro a X w hn hwd hok hX
    obtain ⟨k, l, A, c, mn, mx, kids⟩ := a
    obtain ⟨hc, hc2, hat⟩ := hok
    unfold Nd.v
    simp only at hn hc hc2 hat hwd ⊢
    have hkl : kids.len ≤ 1000 := hwd.1
    have HN := Lib.hid hn
    have HV := Lib.hid hwd.2.1
    have IH := Lib.hid ih
    have HXX := Lib.hid hX
    have HXW := Lib.hid (show ∀ x ∈ (w.heap.size + 1) :: w.heap.size :: X, x < w.heap.size + 2 from fun x hx => by
      simp only [List.mem_cons] at hx
      rcases hx with rfl | rfl | hx
      · omega
      · omega
      · have := hX x hx; omega)
    have HCL := Lib.hid (clone_any A c kids ((w.heap.size + 1) :: w.heap.size :: X) ((w.alloc (obj5 k l A kids.len c mn mx)).alloc obj50) ((hat.grow (Y := (w.heap.size + 1) :: w.heap.size :: X) (fun y hy => by
      simp only [List.mem_cons] at hy
      rcases hy with rfl | rfl | hy
      · exact Or.inr (by omega)
      · exact Or.inr (by omega)
      · exact Or.inl hy)).below (((Below.refl _ w).alloc (by simp) _).alloc (by simp) _)) hkl (fun x hx => by have := HXW.out x hx; simp; omega))
    have HK0 := Lib.hid ((Bx.new w (.int .i64 k) (.string l) (.slice A kids.len c) (.int .i64 mn) (.int .i64 mx) 24).al obj50)
    have HR0 := Lib.hid (show Bx ((w.alloc (obj5 k l A kids.len c mn mx)).alloc obj50) (w.heap.size + 1) (.int .i64 0) (.string ⟨#[]⟩) (.slice none 0 0) (.int .i64 0) (.int .i64 0) from by
      have := Bx.new (w.alloc (obj5 k l A kids.len c mn mx)) (.int .i64 0) (.string ⟨#[]⟩) (.slice none 0 0) (.int .i64 0) (.int .i64 0) 24
      simpa using this)
    have HB0 := Lib.hid (show Below w.heap.size w ((w.alloc (obj5 k l A kids.len c mn mx)).alloc obj50) from ((Below.refl _ w).alloc (by simp) _).alloc (by simp) _)
    have HZ0 := Lib.hid (show ((w.alloc (obj5 k l A kids.len c mn mx)).alloc obj50).heap.size = w.heap.size + 2 by simp)
    clear hat hn ih hX hwd
    go_enter Tryz.func33, Tryz.ntmps33
    go_wp2_with (first | (go_at_call 63; (with_reducible refine (HCL.out).mono ?_); rintro e w1 ⟨⟨A2, c2, rfl, hl1, hl2, hrow⟩, hb1⟩; have HB1 := Lib.hid hb1; have HRW := Lib.hid hrow; clear hb1 hrow))
    obtain ⟨gg, hgg⟩ : ∃ gg, 1 ≤ kids.len → A2 = some ⟨gg, 0, none⟩ ∧ w.heap.size + 2 ≤ gg ∧ gg < w1.heap.size ∧ RowAt w1 ((w.heap.size + 1) :: w.heap.size :: X) gg 0 kids ∧ ∀ j, w1.frozen? ⟨gg, j, none⟩ = false := by
      by_cases h1 : 1 ≤ kids.len
      · obtain ⟨g, a1, a2, a3⟩ := HRW.out h1
        exact ⟨g, fun _ => ⟨a1, by rw [HZ0.out] at a2; exact a2, a3⟩⟩
      · exact ⟨0, fun h => absurd h h1⟩
    have HG := Lib.hid hgg
    have HK1 := Lib.hid (HK0.out.below HB1.out)
    have HR1 := Lib.hid (HR0.out.below HB1.out)
    have HB2 := Lib.hid (bt HB0.out HB1.out HB0.out.size)
    have HZ1 := Lib.hid (show w.heap.size + 2 ≤ w1.heap.size by have := HB1.out.size; rw [HZ0.out] at this; exact this)
    have HS1 := Lib.hid (show 1 ≤ kids.len → RowAt w1 ((w.heap.size + 1) :: w.heap.size :: X) gg 0 kids ∧ gg < w1.heap.size ∧ ∀ j, w1.frozen? ⟨gg, j, none⟩ = false from fun h => ⟨(hgg h).2.2.2.1, (hgg h).2.2.1, (hgg h).2.2.2.2⟩)
    clear hgg HRW HCL HK0 HR0 HB1
    go_loopw [11] (fun iv wr => ∃ (q : Nat) (dn r : Fo), Hid (kids = dn.app r) ∧ Hid (dn.len = q) ∧ iv = .int .i64 q ∧ Hid (1 ≤ kids.len → RowAt wr ((w.heap.size + 1) :: w.heap.size :: X) gg 0 kids ∧ gg < wr.heap.size ∧ ∀ j, wr.frozen? ⟨gg, j, none⟩ = false) ∧ Hid (Bx wr w.heap.size (.int .i64 k) (.string l) (.slice A kids.len c) (.int .i64 mn) (.int .i64 mx)) ∧ Hid (Bx wr (w.heap.size + 1) (.int .i64 0) (.string ⟨#[]⟩) (.slice none 0 0) (.int .i64 0) (.int .i64 0)) ∧ Hid (Below w.heap.size w wr) ∧ Hid (w.heap.size + 2 ≤ wr.heap.size)) (fun iv _ => kids.len - (RowKit.intOf iv).toNat)
    case atStart => exact ⟨0, .nil, kids, Lib.hid rfl, Lib.hid rfl, rfl, HS1, HK1, HR1, HB2, HZ1⟩
    case round =>
      obtain ⟨q, dn, r, hk, hq, rfl, HS, HK, HR, HB, HZ⟩ := hrel
      clear HS1 HK1 HR1 HB2 HZ1
      have hlen := Lib.hid (show kids.len = q + r.len by rw [hk.out, Fo.app_len, hq.out])
      cases r with
      | cons k1 l1 d1 mn1 mx1 r1 =>
        have hlt : (q : Int) < kids.len := by have := hlen.out; simp only [Fo.len] at this; omega
        have hq0 : (0 : Int) ≤ q := by omega
        have hk2 : kids = dn.app (.cons k1 l1 d1 mn1 mx1 r1) := hk.out
        have h1 : 1 ≤ kids.len := by omega
        obtain ⟨hA2, hg1, _⟩ := HG.out h1
        subst hA2
        obtain ⟨hrow, hgl, hfz⟩ := HS.out h1
        have hrow2 := hrow
        rw [hk2, RowAt.app, Nat.zero_add, hq.out] at hrow2
        obtain ⟨_, K1, c1, ⟨e0, e1, e2, e3, e4⟩, hc3, hc4, hat1, _⟩ := hrow2
        have hsz : d1.sz < n := by
          have h5 := congrArg Fo.sz hk2
          rw [Fo.app_sz] at h5
          have h6 := HN.out
          simp only [Fo.sz] at h5
          omega
        have hwk : Wd 1000 (.cons k1 l1 d1 mn1 mx1 .nil) := by
          have h5 := HV.out
          rw [hk2, Wd.app] at h5
          exact ⟨h5.2.1, h5.2.2.1, trivial⟩
        have HCALL := Lib.hid (IH.out ⟨k1, l1, K1, c1, mn1, mx1, d1⟩ (gg :: (w.heap.size + 1) :: w.heap.size :: X) (wr.alloc (obj5 k1 l1 K1 d1.len c1 mn1 mx1)) hsz hwk (Nd.ok.al ⟨hc3, hc4, hat1⟩ _) (fun x hx => by
          rcases List.mem_cons.1 hx with rfl | hx
          · simp; omega
          · have := HXW.out x hx; have := HZ.out; simp; omega))
        unfold Nd.v at HCALL
        simp only at HCALL
        have HSB := Lib.hid (show Below wr.heap.size wr (wr.alloc (obj5 k1 l1 K1 d1.len c1 mn1 mx1)) from (Below.refl _ _).alloc (Nat.le_refl _) _)
        have HRO := Lib.hid hrow
        have HFZ := Lib.hid hfz
        have hkk := Lib.hid (show kids = (dn.app (.cons k1 l1 d1 mn1 mx1 .nil)).app r1 by rw [hk2, Fo.app_assoc]; rfl)
        have hqq := Lib.hid (show (dn.app (.cons k1 l1 d1 mn1 mx1 .nil)).len = q + 1 by rw [Fo.app_len, hq.out]; rfl)
        have HKS := Lib.hid hk2
        clear hrow hat1 hsz hk2 hwk hfz
        go_wp2_with (first
          | (go_at_call 33; (with_reducible refine (HCALL.out).mono ?_); rintro e w2 ⟨⟨k2, l2, A2, c2, mn2, mx2, d2⟩, rfl, hfo2, hok2, hb2⟩; have HF2 := Lib.hid hfo2; have HO2 := Lib.hid hok2; have HB2 := Lib.hid hb2; clear hfo2 hok2 hb2; have HB2b := Lib.hid (HSB.out.trans (HB2.out.mono HSB.out.size)); have HRO2 := Lib.hid (HRO.out.below hgl HB2b.out); have HFZ2 := Lib.hid (show ∀ j, w2.frozen? ⟨gg, j, none⟩ = false from fun j => (HB2b.out.frozen (p := ⟨gg, j, none⟩) hgl).trans (HFZ.out j)); have HCC := Lib.hid HRO2.out; obtain ⟨v0, v1, v2, v3, v4, m0, m1, m2, m3, m4⟩ := row_cells HKS.out hq.out HRO2.out; have n0 := HFZ2.out (q * 5); have n1 := HFZ2.out (q * 5 + 1); have n2 := HFZ2.out (q * 5 + 2); have n3 := HFZ2.out (q * 5 + 3); have n4 := HFZ2.out (q * 5 + 4)))
        have hfe := HF2.out
        simp only [Nd.fo, Fo.cons.injEq, and_true] at hfe
        obtain ⟨rfl, rfl, rfl, rfl, rfl⟩ := hfe
        have hput : RowAt (puto w2 gg (q * 5) (.int .i64 k2) (.string l2) (.slice A2 d2.len c2) (.int .i64 mn2) (.int .i64 mx2)) ((w.heap.size + 1) :: w.heap.size :: X) gg 0 kids := by
          have h5 := HRO2.out
          rw [HKS.out] at h5 ⊢
          exact RowAt.put h5 hq.out HO2.out HFZ2.out
        have hne : w.heap.size ≠ gg ∧ w.heap.size + 1 ≠ gg := by omega
        exact ⟨⟨q + 1, _, r1, hkk, hqq, by go_num, Lib.hid (fun _ => ⟨hput, by rw [puto_size]; exact Nat.lt_of_lt_of_le hgl HB2b.out.size, puto_frozen HFZ2.out⟩), Lib.hid ((HK.out.below HB2b.out).keep (puto_heap _ hne.1)), Lib.hid ((HR.out.below HB2b.out).keep (puto_heap _ hne.2)), Lib.hid (puto_below (bt HB.out HB2b.out HB.out.size) (by omega)), Lib.hid (by rw [puto_size]; exact Nat.le_trans HZ.out HB2b.out.size)⟩, by simp [RowKit.intOf] <;> omega⟩
      | nil =>
        have hlt : ¬ (q : Int) < kids.len := by have := hlen.out; simp only [Fo.len] at this; omega
        obtain ⟨⟨x0, x1, x2, x3, x4⟩, y0, y1, y2, y3, y4⟩ := bx_all (HK.out)
        obtain ⟨⟨z0, z1, z2, z3, z4⟩, t0, t1, t2, t3, t4⟩ := bx_all (HR.out)
        have hok : Nd.ok wr ((w.heap.size + 1) :: w.heap.size :: X) ⟨k, l, A2, c2, mn, mx, kids⟩ := ⟨hl1, hl2, by
          by_cases h1 : 1 ≤ kids.len
          · obtain ⟨hA2, hg1, _⟩ := HG.out h1
            subst hA2
            exact (HS.out h1).1.at (fun hx => by have := HXW.out gg hx; omega)
          · have : kids = .nil := nil_of (by omega)
            subst this
            trivial⟩
        have HOK := Lib.hid hok
        clear hok
        go_wp2_with fail
        exact bodyPost_ret (v := (⟨k, l, A2, c2, mn, mx, kids⟩ : Nd).v) (by simp [results, Tryz.results33, go_sem, z0, z1, z2, z3, z4]) rfl (made_w5 (a := ⟨k, l, A2, c2, mn, mx, kids⟩) rfl ((HOK.out.set (p := ⟨w.heap.size, 2, none⟩) (by simp) _).less (fun y hy => by
          simp only [List.mem_cons] at hy ⊢
          rcases hy with h | h
          · exact Or.inl h
          · exact Or.inr (Or.inr h))) (HB.out.setCell (p := ⟨w.heap.size, 2, none⟩) (Nat.le_refl _) _) (by omega) _ _ _ _ _)
end Go.Proofs.YtpaehicfndkliaaGreatDoor.De


/- The walk of 'Plain'. Condition: the path can be read. -/
namespace Go.Proofs.YtpaehicfndkliaaGreatDoor.De
open Go.RowKit Go.Lib Na Go.PN Pa

theorem Wd.mono {m m' : Nat} {f : Fo} (h : Wd m f) (hm : m ≤ m') : Wd m' f := by
  induction f with
  | nil => trivial
  | cons k l d mn mx r ih1 ih2 => exact ⟨Nat.le_trans h.1 hm, ih1 h.2.1, ih2 h.2.2⟩
theorem Wd.head {m : Nat} {f : Fo} (h : Wd m f) : Wd m (headF f) := by
  cases f with
  | nil => trivial
  | cons => exact ⟨h.1, h.2.1, trivial⟩
theorem Wd.two {K : Int} {a b : Fo} (ha : Wd 2 a) (hb : Wd 2 b) (h1 : a.len ≤ 1) (h2 : b.len ≤ 1) : Wd 2 (twoF K a b) := ⟨by rw [Fo.app_len]; omega, Wd.app.2 ⟨ha, hb⟩, trivial⟩
theorem Wd.eps : Wd 2 epsF := ⟨Nat.zero_le _, trivial, trivial⟩
theorem Wd.row {K : Int} {f : Fo} (h : Wd 2 f) : Wd 2 (rowF K f) := by
  induction f with
  | nil => exact Wd.eps
  | cons k l d mn mx r _ ih =>
    rw [rowF]
    split
    · exact ⟨h.1, h.2.1, trivial⟩
    · exact Wd.two ⟨h.1, h.2.1, trivial⟩ (ih h.2.2) (Nat.le_refl _) (by rw [rowF_len]; exact Nat.le_refl _)
theorem Wd.rept {n : Nat} {f : Fo} (h : Wd 2 f) : Wd 2 (rept n f) := by
  induction n with
  | zero => trivial
  | succ n ih => exact Wd.app.2 ⟨h, ih⟩
theorem headF_le (f : Fo) : (headF f).len ≤ 1 := by cases f <;> simp [headF, Fo.len]
theorem Wd.tail {n : Nat} {f : Fo} (h : Wd 2 f) (h1 : f.len ≤ 1) : Wd 2 (tailF n f) := by
  induction n with
  | zero => exact Wd.two Wd.eps h (Nat.le_refl _) h1
  | succ n ih => exact Wd.two Wd.eps (Wd.two h ih h1 (by rw [tailF_len]; exact Nat.le_refl _)) (Nat.le_refl _) (Nat.le_refl _)
theorem Wd.star {f : Fo} (h : Wd 2 f) (h1 : f.len ≤ 1) : Wd 2 (starF f) := ⟨Nat.le_succ_of_le h1, h, trivial⟩
theorem Wd.pl1 {k : Int} {l : ByteArray} {L : Fo} {mn mx : Int} (h : Wd 2 L) : Wd 2 (pl1 k l L mn mx) := by
  have hh := h.head
  have h1 := headF_le L
  unfold De.pl1
  repeat' split
  · exact ⟨Nat.zero_le _, trivial, trivial⟩
  · exact h.row
  · exact hh.star h1
  · exact Wd.two hh (hh.star h1) h1 (Nat.le_refl _)
  · exact Wd.two Wd.eps hh (Nat.le_refl _) h1
  · refine Wd.row (Wd.app.2 ⟨hh.rept, ?_⟩)
    split
    · exact hh.star h1
    · split
      · exact hh.tail h1
      · trivial
  · exact Wd.eps
theorem Wd.plL (f : Fo) : Wd 2 (plL f) := by
  induction f with
  | nil => trivial
  | cons k l d mn mx r ih1 ih2 => exact Wd.app.2 ⟨Wd.pl1 ih1, ih2⟩
abbrev zerF : Fo := .cons 0 ⟨#[]⟩ .nil 0 0 .nil
def plainR (k : Int) (l : ByteArray) (d : Fo) (mn mx : Int) : Fo × Int := if checkE k l d mn mx = 0 then (pl1 k l (plL d) mn mx, 0) else (zerF, checkE k l d mn mx)
def PlainP (w : World) (X : List Nat) (r : Fo × Int) (e : Ending) (w' : World) : Prop := ∃ a : Nd, e = .returned (.tuple #[a.v, .int .i64 r.2]) ∧ a.fo .nil = r.1 ∧ a.ok w' X ∧ Below w.heap.size w w'
set_option maxRecDepth 100000 in
set_option maxHeartbeats 4000000 in
theorem Plain_any (a : Nd) (X : List Nat) (w : World) (h : a.ok w X) (hbd : Bd (a.fo .nil)) (hX : ∀ x ∈ X, x < w.heap.size) : Calls Tryz.prog 11 #[a.v] w (PlainP w X (plainR a.k a.l a.kids a.mn a.mx)) := by
  have HC := Lib.hid (fun (w1 : World) (hb : Below w.heap.size w w1) => check_any a X w1 (h.below hb) hbd)
  have HZ := Lib.hid (show ∀ o1 : Obj, Bx ((w.alloc o1).alloc obj50) (w.heap.size + 1) (.int .i64 0) (.string ⟨#[]⟩) (.slice none 0 0) (.int .i64 0) (.int .i64 0) from fun o1 => by
    have := Bx.new (w.alloc o1) (.int .i64 0) (.string ⟨#[]⟩) (.slice none 0 0) (.int .i64 0) (.int .i64 0) 24
    simpa using this)
  have HY := Lib.hid ((Bx.new w (.int .i64 a.k) (.string a.l) (.slice a.A a.kids.len a.c) (.int .i64 a.mn) (.int .i64 a.mx) 24).al obj50)
  have HB := Lib.hid (show ∀ o1 o2 : Obj, Below w.heap.size w ((w.alloc o1).alloc o2) from fun o1 o2 => ((Below.refl _ w).alloc (by simp) o1).alloc (by simp) o2)
  have HS := Lib.hid (show ∀ o1 o2 : Obj, ((w.alloc o1).alloc o2).heap.size = w.heap.size + 2 from fun o1 o2 => by simp)
  by_cases h0 : checkE a.k a.l a.kids a.mn a.mx = 0
  · have HE := Lib.hid (show plainR a.k a.l a.kids a.mn a.mx = (pl1 a.k a.l (plL a.kids) a.mn a.mx, 0) from if_pos h0)
    obtain ⟨hv, hd, hs, hz⟩ := check_zero h0
    rw [h0] at HC
    have HP := Lib.hid (fun (w1 : World) (hb : Below w.heap.size w w1) (hz1 : w.heap.size + 2 ≤ w1.heap.size) => plain_n (a.kids.sz + 1) a ((w.heap.size + 1) :: X) w1 (by omega) (by omega) hv ((ok_grow h (fun y hy => by
      rcases List.mem_cons.1 hy with rfl | hy
      · exact Or.inr (by omega)
      · exact Or.inl hy)).below hb) (fun x hx => by
      rcases List.mem_cons.1 hx with rfl | hx
      · omega
      · have := hX x hx; omega))
    have HX := Lib.hid (show ∀ x ∈ (w.heap.size + 1) :: X, x < w.heap.size + 2 from fun x hx => by
      rcases List.mem_cons.1 hx with rfl | hx
      · omega
      · have := hX x hx; omega)
    unfold Nd.v at *
    clear h hbd hX hv hd hs hz h0
    go_enter Tryz.func11, Tryz.ntmps11
    go_wp2_with (first
      | (go_at_call 25; (with_reducible refine (HC.out _ (HB.out _ _)).mono ?_); rintro e w1 ⟨rfl, hb1⟩; have HB1 := Lib.hid ((HB.out (obj5 a.k a.l a.A a.kids.len a.c a.mn a.mx) obj50).trans (hb1.mono (by rw [HS.out]; omega))); have HS1 := Lib.hid (show w.heap.size + 2 ≤ w1.heap.size by have := hb1.size; rw [HS.out] at this; exact this); have HZ1 := Lib.hid ((HZ.out (obj5 a.k a.l a.A a.kids.len a.c a.mn a.mx)).below hb1); have HY1 := Lib.hid (HY.out.below hb1); obtain ⟨⟨x0, x1, x2, x3, x4⟩, y0, y1, y2, y3, y4⟩ := bx_all HY1.out; clear hb1)
      | (go_at_call 34; (with_reducible refine (HP.out _ HB1.out HS1.out).mono ?_); rintro e w2 ⟨⟨k2, l2, A2, c2, mn2, mx2, d2⟩, rfl, hfo2, hok2, hb2⟩; have HF2 := Lib.hid hfo2; have HB2 := Lib.hid hb2; have HOW := Lib.hid (own_n (d2.sz + 1) ⟨k2, l2, A2, c2, mn2, mx2, d2⟩ ((w.heap.size + 1) :: X) w2 (Nat.lt_succ_self _) (by rw [HF2.out]; exact (Wd.pl1 (Wd.plL _)).mono (by decide)) hok2 (fun x hx => by have := HX.out x hx; have := HS1.out; have := HB2.out.size; omega)); unfold Nd.v at HOW; simp only at HOW; clear hfo2 hok2 hb2)
      | (go_at_call 33; (with_reducible refine (HOW.out).mono ?_); rintro e w3 ⟨⟨k3, l3, A3, c3, mn3, mx3, d3⟩, rfl, hfo3, hok3, hb3⟩; have HF3 := Lib.hid hfo3; have HO3 := Lib.hid hok3; have HB3 := Lib.hid hb3; clear hfo3 hok3 hb3; obtain ⟨⟨r0, r1, r2, r3, r4⟩, s0, s1, s2, s3, s4⟩ := bx_all ((HZ1.out.below HB2.out).below HB3.out)))
    exact bodyPost_ret (v := .tuple #[(⟨k3, l3, A3, c3, mn3, mx3, d3⟩ : Nd).v, .int .i64 0]) (by simp [results, Tryz.results11, go_sem, r0, r1, r2, r3, r4]) rfl (by
      rw [HE.out]
      exact ⟨⟨k3, l3, A3, c3, mn3, mx3, d3⟩, rfl, HF3.out.trans HF2.out, (ok_w5 HO3.out (by simp)).less (fun y hy => List.mem_cons_of_mem _ hy), below_w5 (bt (bt HB1.out HB2.out HB1.out.size) HB3.out (Nat.le_trans HB1.out.size HB2.out.size)) (by omega)⟩)
  · have HE := Lib.hid (show plainR a.k a.l a.kids a.mn a.mx = (zerF, checkE a.k a.l a.kids a.mn a.mx) from if_neg h0)
    have h0' : (checkE a.k a.l a.kids a.mn a.mx == 0) = false := by rw [beq_eq_false_iff_ne]; exact h0
    generalize checkE a.k a.l a.kids a.mn a.mx = E at *
    unfold Nd.v at *
    clear h hbd hX h0
    go_enter Tryz.func11, Tryz.ntmps11
    go_wp2_with (first
      | (go_at_call 25; (with_reducible refine (HC.out _ (HB.out _ _)).mono ?_); rintro e w1 ⟨rfl, hb1⟩; have HB1 := Lib.hid ((HB.out (obj5 a.k a.l a.A a.kids.len a.c a.mn a.mx) obj50).trans (hb1.mono (by rw [HS.out]; omega))); have HZ1 := Lib.hid ((HZ.out (obj5 a.k a.l a.A a.kids.len a.c a.mn a.mx)).below hb1); clear hb1; obtain ⟨⟨r0, r1, r2, r3, r4⟩, s0, s1, s2, s3, s4⟩ := bx_all HZ1.out))
    exact bodyPost_ret (v := .tuple #[(⟨0, ⟨#[]⟩, none, 0, 0, 0, .nil⟩ : Nd).v, .int .i64 E]) (by simp [results, Tryz.results11, go_sem, r0, r1, r2, r3, r4, Fo.len]) rfl (by
      rw [HE.out]
      exact ⟨⟨0, ⟨#[]⟩, none, 0, 0, 0, .nil⟩, rfl, rfl, ⟨Nat.le_refl _, Nat.zero_le _, trivial⟩, below_w5 HB1.out (by omega)⟩)
end Go.Proofs.YtpaehicfndkliaaGreatDoor.De
