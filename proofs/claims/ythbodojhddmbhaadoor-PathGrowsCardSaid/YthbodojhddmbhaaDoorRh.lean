/- The law PathBack. Conditions: the trees can be read; the library's two errors can be read. -/
import Derived.Test.YthbodojhddmbhaaDoorRg
import Derived.Deep.RegionHeld3
namespace Go.Proofs.YthbodojhddmbhaaDoor.Pa
open Go.RowKit Go.Lib Na Go.PN

/-- A path in a variable of its own. -/
def Pv (w : World) (g : Nat) (a : Nd) : Prop :=
  w.cell? ⟨g, 0, none⟩ = some (.int .i64 a.k) ∧ w.cell? ⟨g, 1, none⟩ = some (.string a.l) ∧ w.cell? ⟨g, 2, none⟩ = some (.slice a.A a.kids.len a.c) ∧ w.cell? ⟨g, 3, none⟩ = some (.int .i64 a.mn) ∧ w.cell? ⟨g, 4, none⟩ = some (.int .i64 a.mx) ∧ a.ok w []
section
variable {w w' : World} {g : Nat} {a : Nd}
theorem Pv.ok (h : Pv w g a) : a.ok w [] := h.2.2.2.2.2
theorem Pv.below (h : Pv w g a) (hb : Below w.heap.size w w') : Pv w' g a :=
  ⟨(hb.cell (cell_lt h.1)).trans h.1, (hb.cell (cell_lt h.2.1)).trans h.2.1, (hb.cell (cell_lt h.2.2.1)).trans h.2.2.1, (hb.cell (cell_lt h.2.2.2.1)).trans h.2.2.2.1, (hb.cell (cell_lt h.2.2.2.2.1)).trans h.2.2.2.2.1, h.ok.below hb⟩
theorem Pv.al (h : Pv w g a) (o : Obj) : Pv (w.alloc o) g a := h.below ((Below.refl _ _).alloc (Nat.le_refl _) o)
theorem Pv.drew (h : Pv w g a) : Pv w.drew g a := h.below (Below.refl _ _).drew
theorem Pv.new (w : World) (a : Nd) (h : a.ok w []) : Pv (w.alloc (cells5 a.k a.l a.A a.kids.len a.c a.mn a.mx)) w.heap.size a := by
  have hb := Bx.new w (.int .i64 a.k) (.string a.l) (.slice a.A a.kids.len a.c) (.int .i64 a.mn) (.int .i64 a.mx) 27
  exact ⟨hb.c0, hb.c1, hb.c2, hb.c3, hb.c4, h.al _⟩
end
theorem below_go {w w1 w2 : World} (h : Below w.heap.size w w1) (h2 : Below w1.heap.size w1 w2) : Below w.heap.size w w2 := h.trans (h2.mono h.size)
theorem boxed2 {a b : Nd} {w : World} (ha : a.ok w []) (hb : b.ok w []) : Pv ((w.alloc (cells5 a.k a.l a.A a.kids.len a.c a.mn a.mx)).alloc (cells5 b.k b.l b.A b.kids.len b.c b.mn b.mx)) w.heap.size a ∧ Pv ((w.alloc (cells5 a.k a.l a.A a.kids.len a.c a.mn a.mx)).alloc (cells5 b.k b.l b.A b.kids.len b.c b.mn b.mx)) (w.heap.size + 1) b ∧ Below w.heap.size w ((w.alloc (cells5 a.k a.l a.A a.kids.len a.c a.mn a.mx)).alloc (cells5 b.k b.l b.A b.kids.len b.c b.mn b.mx)) := by
  refine ⟨(Pv.new w a ha).al _, ?_, ((Below.refl _ _).alloc (Nat.le_refl _) _).alloc (by simp) _⟩
  have := Pv.new (w.alloc (cells5 a.k a.l a.A a.kids.len a.c a.mn a.mx)) b (hb.al _)
  simpa using this
/-- What was written is read as it was. -/
theorem parse_of (a : Nd) (w : World) (hG : ErG w) (hc : checkE a.k a.l a.kids a.mn a.mx = 0) : Calls Tryd.prog 15 #[strV (textT a.k a.l a.kids a.mn a.mx)] w fun e w' => ∃ x : Nd, e = .returned (.tuple #[x.v, .int .i64 0]) ∧ x.fo .nil = nrm (a.fo .nil) ∧ x.ok w' [] ∧ Below w.heap.size w w' := by
  have h := parse_any ⟨(textT a.k a.l a.kids a.mn a.mx).toArray⟩ w hG [] (fun x hx => by cases hx)
  rw [show (⟨(textT a.k a.l a.kids a.mn a.mx).toArray⟩ : ByteArray).data.toList = textT a.k a.l a.kids a.mn a.mx from by simp, parse_back hc] at h
  exact h
theorem same_of (x a : Nd) (w : World) (hx : x.ok w []) (ha : a.ok w []) (h : x.fo .nil = nrm (a.fo .nil)) : Calls Tryd.prog 19 #[x.v, a.v] w fun e w' => e = .returned (.bool true) ∧ Below w.heap.size w w' := by
  have h1 := Same_any x a [] w hx ha
  have e : sameL (x.fo .nil) (a.fo .nil) = true := (sameL_iff _ _).2 (by rw [h, nrm_nrm])
  rwa [e] at h1
theorem same_is (a b : Nd) (w : World) (ha : a.ok w []) (hb : b.ok w []) {Q : Bool} (h : Hid (sameL (a.fo .nil) (b.fo .nil) = Q)) : Calls Tryd.prog 19 #[a.v, b.v] w fun e w' => e = .returned (.bool Q) ∧ Below w.heap.size w w' := by
  have h1 := Same_any a b [] w ha hb
  rwa [h.out] at h1
theorem text_is (a : Nd) (w : World) (h : a.ok w []) (hbd : Bd (a.fo .nil)) {T : List UInt8} (hT : Hid (textT a.k a.l a.kids a.mn a.mx = T)) : Calls Tryd.prog 12 #[a.v] w fun e w' => e = .returned (strV T) ∧ Below w.heap.size w w' := by
  have h1 := Text_any a [] w h hbd
  rwa [hT.out] at h1
theorem check_is (a : Nd) (w : World) (h : a.ok w []) (hbd : Bd (a.fo .nil)) {E : Int} (hE : Hid (checkE a.k a.l a.kids a.mn a.mx = E)) : Calls Tryd.prog 11 #[a.v] w fun e w' => e = .returned (.int .i64 E) ∧ Below w.heap.size w w' := by
  have h1 := check_any a [] w h hbd
  rwa [hE.out] at h1
set_option maxRecDepth 100000 in
set_option maxHeartbeats 16000000 in
theorem back_no (a b : Nd) (w : World) (hG : ErG w) (ha : a.ok w []) (hb : b.ok w []) (hda : Bd (a.fo .nil)) (hdb : Bd (b.fo .nil)) (hla : Lb (a.fo .nil)) (hlb : Lb (b.fo .nil)) (E : Int) (hE : (E != 0) = true) (hc : Hid (checkE a.k a.l a.kids a.mn a.mx = E)) :
    Calls Tryd.prog 7 #[a.v, b.v] w fun e w' => e = .returned (.bool true) ∧ Below w.heap.size w w' := by
  have hT : Hid (textT a.k a.l a.kids a.mn a.mx = []) := textT_ne.2 (by rw [hc.out]; simpa using hE)
  have h2 := boxed2 ha hb
  have Fa := Lib.hid h2.1
  have Fb := Lib.hid h2.2.1
  have BB := Lib.hid h2.2.2
  have LL := Lib.hid (hG.below h2.2.2)
  have hL0 := Lib.hid hG
  have DA := Lib.hid hda
  have DB := Lib.hid hdb
  have LA := Lib.hid hla
  have LB := Lib.hid hlb
  clear h2
  clear hG ha hb hda hdb hla hlb
  obtain ⟨a0, a1, a2, a3, a4, _⟩ := Fa.out
  obtain ⟨b0, b1, b2, b3, b4, _⟩ := Fb.out
  unfold Nd.v
  go_enter Tryd.func7, Tryd.ntmps7
  go_wp2_with (go_at_call 10; (with_reducible refine (small_any a [] _ Fa.out.ok LA.out).mono ?_); rintro e w1 ⟨⟨B1, rfl⟩, hbw1⟩; have Fa := Lib.hid (Fa.out.below hbw1); have Fb := Lib.hid (Fb.out.below hbw1); have BB := Lib.hid (below_go BB.out hbw1); have LL := Lib.hid (hL0.out.below BB.out); clear hbw1; obtain ⟨a0, a1, a2, a3, a4, _⟩ := Fa.out; obtain ⟨b0, b1, b2, b3, b4, _⟩ := Fb.out; refine Hid.out ?_)
  cases B1
  · refine Lib.hid ?_
    go_wp2_with (go_at_call 8; (with_reducible refine (awake_any _ LL.out).mono ?_); rintro e wz ⟨rfl, hbz⟩)
    go_ret
    exact ⟨rfl, below_go BB.out hbz⟩
  refine Lib.hid ?_
  go_wp2_with (go_at_call 10; (with_reducible refine (small_any b [] _ Fb.out.ok LB.out).mono ?_); rintro e w2 ⟨⟨B2, rfl⟩, hbw2⟩; have Fa := Lib.hid (Fa.out.below hbw2); have Fb := Lib.hid (Fb.out.below hbw2); have BB := Lib.hid (below_go BB.out hbw2); have LL := Lib.hid (hL0.out.below BB.out); clear hbw2; obtain ⟨a0, a1, a2, a3, a4, _⟩ := Fa.out; obtain ⟨b0, b1, b2, b3, b4, _⟩ := Fb.out; refine Hid.out ?_)
  cases B2
  · refine Lib.hid ?_
    go_wp2_with (go_at_call 8; (with_reducible refine (awake_any _ LL.out).mono ?_); rintro e wz ⟨rfl, hbz⟩)
    go_ret
    exact ⟨rfl, below_go BB.out hbz⟩
  refine Lib.hid ?_
  go_wp2_with (first
    | (go_at_call 12; (with_reducible refine (text_is a _ Fa.out.ok DA.out hT).mono ?_); rintro e w3 ⟨rfl, hbw3⟩; have Fa := Lib.hid (Fa.out.below hbw3); have Fb := Lib.hid (Fb.out.below hbw3); have BB := Lib.hid (below_go BB.out hbw3); have LL := Lib.hid (hL0.out.below BB.out); clear hbw3; obtain ⟨a0, a1, a2, a3, a4, _⟩ := Fa.out; obtain ⟨b0, b1, b2, b3, b4, _⟩ := Fb.out)
    | (go_at_call 11; (with_reducible refine (check_is a _ Fa.out.ok DA.out hc).mono ?_); rintro e w4 ⟨rfl, hbw4⟩; have Fa := Lib.hid (Fa.out.below hbw4); have Fb := Lib.hid (Fb.out.below hbw4); have BB := Lib.hid (below_go BB.out hbw4); have LL := Lib.hid (hL0.out.below BB.out); clear hbw4; obtain ⟨a0, a1, a2, a3, a4, _⟩ := Fa.out; obtain ⟨b0, b1, b2, b3, b4, _⟩ := Fb.out)
    | (go_at_call 8; (with_reducible refine (awake_any _ LL.out).mono ?_); rintro e wz ⟨rfl, hbz⟩))
  go_ret
  exact ⟨rfl, below_go BB.out hbz⟩
set_option linter.unusedSimpArgs false in
set_option maxRecDepth 100000 in
set_option maxHeartbeats 16000000 in
theorem back_bad (a b : Nd) (w : World) (hG : ErG w) (ha : a.ok w []) (hb : b.ok w []) (hda : Bd (a.fo .nil)) (hdb : Bd (b.fo .nil)) (hla : Lb (a.fo .nil)) (hlb : Lb (b.fo .nil)) (hca : Hid (checkE a.k a.l a.kids a.mn a.mx = 0)) (E : Int) (hE : (E != 0) = true) (hcb : Hid (checkE b.k b.l b.kids b.mn b.mx = E)) :
    Calls Tryd.prog 7 #[a.v, b.v] w fun e w' => e = .returned (.bool true) ∧ Below w.heap.size w w' := by
  obtain ⟨T, hT⟩ : ∃ T, textT a.k a.l a.kids a.mn a.mx = T := ⟨_, rfl⟩
  have HT := Lib.hid hT
  have hne : T ≠ [] := fun e => textT_ne.1 (hT.trans e) hca.out
  have te : (T == []) = false := by cases T with | nil => exact absurd rfl hne | cons => rfl
  have te2 : T.isEmpty = false := by cases T with | nil => exact absurd rfl hne | cons => rfl
  clear hT hne
  have h2 := boxed2 ha hb
  have Fa := Lib.hid h2.1
  have Fb := Lib.hid h2.2.1
  have BB := Lib.hid h2.2.2
  have LL := Lib.hid (hG.below h2.2.2)
  have hL0 := Lib.hid hG
  have DA := Lib.hid hda
  have DB := Lib.hid hdb
  have LA := Lib.hid hla
  have LB := Lib.hid hlb
  clear h2
  clear hG ha hb hda hdb hla hlb
  obtain ⟨a0, a1, a2, a3, a4, _⟩ := Fa.out
  obtain ⟨b0, b1, b2, b3, b4, _⟩ := Fb.out
  have PP : Hid (∀ w1 : World, ErG w1 → Calls Tryd.prog 15 #[strV T] w1 fun e w' => ∃ x : Nd, e = .returned (.tuple #[x.v, .int .i64 0]) ∧ x.fo .nil = nrm (a.fo .nil) ∧ x.ok w' [] ∧ Below w1.heap.size w1 w') := fun w1 hG => by
    have := parse_of a w1 hG hca.out
    rwa [HT.out] at this
  unfold Nd.v
  go_enter Tryd.func7, Tryd.ntmps7
  go_wp2_with (go_at_call 10; (with_reducible refine (small_any a [] _ Fa.out.ok LA.out).mono ?_); rintro e w1 ⟨⟨B1, rfl⟩, hbw1⟩; have Fa := Lib.hid (Fa.out.below hbw1); have Fb := Lib.hid (Fb.out.below hbw1); have BB := Lib.hid (below_go BB.out hbw1); have LL := Lib.hid (hL0.out.below BB.out); clear hbw1; obtain ⟨a0, a1, a2, a3, a4, _⟩ := Fa.out; obtain ⟨b0, b1, b2, b3, b4, _⟩ := Fb.out; refine Hid.out ?_)
  cases B1
  · refine Lib.hid ?_
    go_wp2_with (go_at_call 8; (with_reducible refine (awake_any _ LL.out).mono ?_); rintro e wz ⟨rfl, hbz⟩)
    go_ret
    exact ⟨rfl, below_go BB.out hbz⟩
  refine Lib.hid ?_
  go_wp2_with (go_at_call 10; (with_reducible refine (small_any b [] _ Fb.out.ok LB.out).mono ?_); rintro e w2 ⟨⟨B2, rfl⟩, hbw2⟩; have Fa := Lib.hid (Fa.out.below hbw2); have Fb := Lib.hid (Fb.out.below hbw2); have BB := Lib.hid (below_go BB.out hbw2); have LL := Lib.hid (hL0.out.below BB.out); clear hbw2; obtain ⟨a0, a1, a2, a3, a4, _⟩ := Fa.out; obtain ⟨b0, b1, b2, b3, b4, _⟩ := Fb.out; refine Hid.out ?_)
  cases B2
  · refine Lib.hid ?_
    go_wp2_with (go_at_call 8; (with_reducible refine (awake_any _ LL.out).mono ?_); rintro e wz ⟨rfl, hbz⟩)
    go_ret
    exact ⟨rfl, below_go BB.out hbz⟩
  refine Lib.hid ?_
  go_wp2_with (first
    | (go_at_call 12; (with_reducible refine (text_is a _ Fa.out.ok DA.out HT).mono ?_); rintro e w3 ⟨rfl, hbw3⟩; have Fa := Lib.hid (Fa.out.below hbw3); have Fb := Lib.hid (Fb.out.below hbw3); have BB := Lib.hid (below_go BB.out hbw3); have LL := Lib.hid (hL0.out.below BB.out); clear hbw3; obtain ⟨a0, a1, a2, a3, a4, _⟩ := Fa.out; obtain ⟨b0, b1, b2, b3, b4, _⟩ := Fb.out)
    | (go_at_call 11; (with_reducible refine (check_is a _ Fa.out.ok DA.out hca).mono ?_); rintro e w4 ⟨rfl, hbw4⟩; have Fa := Lib.hid (Fa.out.below hbw4); have Fb := Lib.hid (Fb.out.below hbw4); have BB := Lib.hid (below_go BB.out hbw4); have LL := Lib.hid (hL0.out.below BB.out); clear hbw4; obtain ⟨a0, a1, a2, a3, a4, _⟩ := Fa.out; obtain ⟨b0, b1, b2, b3, b4, _⟩ := Fb.out)
    | (go_at_call 15; (with_reducible refine (PP.out _ LL.out).mono ?_); rintro e w5 ⟨x, rfl, hxf, hxo, hbw5⟩; have HXF := Lib.hid hxf; have Fx := Lib.hid (Pv.new w5 x hxo); have Fa := Lib.hid ((Fa.out.below hbw5).al (cells5 x.k x.l x.A x.kids.len x.c x.mn x.mx)); have Fb := Lib.hid ((Fb.out.below hbw5).al (cells5 x.k x.l x.A x.kids.len x.c x.mn x.mx)); have BB := Lib.hid (below_go (below_go BB.out hbw5) ((Below.refl _ _).alloc (Nat.le_refl _) (cells5 x.k x.l x.A x.kids.len x.c x.mn x.mx))); clear hbw5 hxf hxo))
  clear a0 a1 a2 a3 a4 b0 b1 b2 b3 b4
  have BB := Lib.hid (below_go BB.out (Below.refl _ _).drew)
  have LL := Lib.hid (hL0.out.below BB.out)
  have Fa := Lib.hid Fa.out.drew
  have Fb := Lib.hid Fb.out.drew
  have Fx := Lib.hid Fx.out.drew
  refine wp_region_held_drew (S := fun w' => Pv w' (w.heap.size) a ∧ Pv w' (w.heap.size + 1) b ∧ Pv w' (w5.heap.size) x) (by kernel_rfl) ⟨Fa.out, Fb.out, Fx.out⟩ (fun hHeld => ?_)
  refine wpAnyH_take (i := 0) (v := (.int .i64 0)) rfl (by kernel_rfl) (by kernel_rfl) (by kernel_rfl) (fun _ _ _ h => h) (Or.inl ⟨by kernel_rfl, by intro w hSw; clear hSw; go_simp⟩) (by assumption) ?_
  try simp (config := { maxSteps := 10000000 }) only [Act.put, List.getElem_toArray, List.getElem_cons_zero, List.getElem_cons_succ, List.setIfInBounds_toArray, List.set_cons_zero, List.set_cons_succ]
  refine wpAnyH_take (i := 1) (v := (.bool true)) rfl (by kernel_rfl) (by kernel_rfl) (by kernel_rfl) (fun _ _ _ h => h) (Or.inl ⟨by kernel_rfl, by intro w hSw; clear hSw; go_simp⟩) (by assumption) ?_
  try simp (config := { maxSteps := 10000000 }) only [Act.put, List.getElem_toArray, List.getElem_cons_zero, List.getElem_cons_succ, List.setIfInBounds_toArray, List.set_cons_zero, List.set_cons_succ]
  refine wpAnyH_take (i := 2) (v := (.bool true)) rfl (by kernel_rfl) (by kernel_rfl) (by kernel_rfl) (fun _ _ _ h => h) (Or.inl ⟨by kernel_rfl, by intro w hSw; clear hSw; go_simp⟩) (by assumption) ?_
  try simp (config := { maxSteps := 10000000 }) only [Act.put, List.getElem_toArray, List.getElem_cons_zero, List.getElem_cons_succ, List.setIfInBounds_toArray, List.set_cons_zero, List.set_cons_succ]
  refine wpAnyH_take (i := 3) (v := (.agg #[.int .i64 x.k, .string x.l, .slice x.A x.kids.len x.c, .int .i64 x.mn, .int .i64 x.mx])) rfl (by kernel_rfl) (by kernel_rfl) (by kernel_rfl) (fun _ _ _ h => h) (Or.inl ⟨by kernel_rfl, by intro w hSw; (try dsimp only at hSw); obtain ⟨hl0, hl1, hl2⟩ := hSw; obtain ⟨k0, k1, k2, k3, k4, _⟩ := hl2; clear hl0 hl1; go_simp⟩) (by assumption) ?_
  try simp (config := { maxSteps := 10000000 }) only [Act.put, List.getElem_toArray, List.getElem_cons_zero, List.getElem_cons_succ, List.setIfInBounds_toArray, List.set_cons_zero, List.set_cons_succ]
  refine wpAnyH_take (i := 4) (v := (.agg #[.int .i64 a.k, .string a.l, .slice a.A a.kids.len a.c, .int .i64 a.mn, .int .i64 a.mx])) rfl (by kernel_rfl) (by kernel_rfl) (by kernel_rfl) (fun _ _ _ h => h) (Or.inl ⟨by kernel_rfl, by intro w hSw; (try dsimp only at hSw); obtain ⟨hl0, hl1, hl2⟩ := hSw; obtain ⟨k0, k1, k2, k3, k4, _⟩ := hl0; clear hl1 hl2; go_simp⟩) (by assumption) ?_
  try simp (config := { maxSteps := 10000000 }) only [Act.put, List.getElem_toArray, List.getElem_cons_zero, List.getElem_cons_succ, List.setIfInBounds_toArray, List.set_cons_zero, List.set_cons_succ]
  refine wpAnyH_ready (rs := [5]) (by kernel_rfl) (by simp) ?_
  refine AllReadyH.cons rfl (fun K hK => ?_) AllReadyH.nil
  go_simp
  go_at_call 19
  (with_reducible refine (same_of x a _ Fx.out.ok Fa.out.ok HXF.out).mono ?_); rintro e wk1 ⟨rfl, hbwk1⟩; have BB := Lib.hid (below_go BB.out hbwk1); have LL := Lib.hid (hL0.out.below BB.out); have Fa := Lib.hid (Fa.out.below hbwk1); have Fb := Lib.hid (Fb.out.below hbwk1); have Fx := Lib.hid (Fx.out.below hbwk1)
  go_wp2_with fail
  refine hK.out _ _ ⟨Fa.out, Fb.out, Fx.out⟩ (fun hHeld => ?_)
  clear hK K
  try simp (config := { maxSteps := 10000000 }) only [Act.put, List.getElem_toArray, List.getElem_cons_zero, List.getElem_cons_succ, List.setIfInBounds_toArray, List.set_cons_zero, List.set_cons_succ]
  refine wpAnyH_take (i := 6) (v := (.bool true)) rfl (by kernel_rfl) (by kernel_rfl) (by kernel_rfl) (fun _ _ _ h => h) (Or.inl ⟨by kernel_rfl, by intro w hSw; clear hSw; go_simp⟩) (by assumption) ?_
  try simp (config := { maxSteps := 10000000 }) only [Act.put, List.getElem_toArray, List.getElem_cons_zero, List.getElem_cons_succ, List.setIfInBounds_toArray, List.set_cons_zero, List.set_cons_succ]
  refine wpAnyH_take (i := 7) (v := (.bool true)) rfl (by kernel_rfl) (by kernel_rfl) (by kernel_rfl) (fun _ _ _ h => h) (Or.inl ⟨by kernel_rfl, by intro w hSw; clear hSw; go_simp⟩) (by assumption) ?_
  try simp (config := { maxSteps := 10000000 }) only [Act.put, List.getElem_toArray, List.getElem_cons_zero, List.getElem_cons_succ, List.setIfInBounds_toArray, List.set_cons_zero, List.set_cons_succ]
  refine wpAnyH_take (i := 8) (v := (strV T)) rfl (by kernel_rfl) (by kernel_rfl) (by kernel_rfl) (fun _ _ _ h => h) (Or.inl ⟨by kernel_rfl, by intro w hSw; clear hSw; go_simp⟩) (by assumption) ?_
  try simp (config := { maxSteps := 10000000 }) only [Act.put, List.getElem_toArray, List.getElem_cons_zero, List.getElem_cons_succ, List.setIfInBounds_toArray, List.set_cons_zero, List.set_cons_succ]
  refine wpAnyH_take (i := 9) (v := (.bool true)) rfl (by kernel_rfl) (by kernel_rfl) (by kernel_rfl) (fun _ _ _ h => h) (Or.inl ⟨by kernel_rfl, by intro w hSw; clear hSw; go_simp⟩) (by assumption) ?_
  try simp (config := { maxSteps := 10000000 }) only [Act.put, List.getElem_toArray, List.getElem_cons_zero, List.getElem_cons_succ, List.setIfInBounds_toArray, List.set_cons_zero, List.set_cons_succ]
  refine wpAnyH_take (i := 10) (v := (.bool true)) rfl (by kernel_rfl) (by kernel_rfl) (by kernel_rfl) (fun _ _ _ h => h) (Or.inl ⟨by kernel_rfl, by intro w hSw; clear hSw; go_simp⟩) (by assumption) ?_
  try simp (config := { maxSteps := 10000000 }) only [Act.put, List.getElem_toArray, List.getElem_cons_zero, List.getElem_cons_succ, List.setIfInBounds_toArray, List.set_cons_zero, List.set_cons_succ]
  refine wpAnyH_take (i := 11) (v := (.bool true)) rfl (by kernel_rfl) (by kernel_rfl) (by kernel_rfl) (fun _ _ _ h => h) (Or.inl ⟨by kernel_rfl, by intro w hSw; clear hSw; go_simp⟩) (by assumption) ?_
  try simp (config := { maxSteps := 10000000 }) only [Act.put, List.getElem_toArray, List.getElem_cons_zero, List.getElem_cons_succ, List.setIfInBounds_toArray, List.set_cons_zero, List.set_cons_succ]
  refine wpAnyH_take (i := 12) (v := (.agg #[.int .i64 b.k, .string b.l, .slice b.A b.kids.len b.c, .int .i64 b.mn, .int .i64 b.mx])) rfl (by kernel_rfl) (by kernel_rfl) (by kernel_rfl) (fun _ _ _ h => h) (Or.inl ⟨by kernel_rfl, by intro w hSw; (try dsimp only at hSw); obtain ⟨hl0, hl1, hl2⟩ := hSw; obtain ⟨k0, k1, k2, k3, k4, _⟩ := hl1; clear hl0 hl2; go_simp⟩) (by assumption) ?_
  try simp (config := { maxSteps := 10000000 }) only [Act.put, List.getElem_toArray, List.getElem_cons_zero, List.getElem_cons_succ, List.setIfInBounds_toArray, List.set_cons_zero, List.set_cons_succ]
  refine wpAnyH_ready (rs := [13]) (by kernel_rfl) (by simp) ?_
  refine AllReadyH.cons rfl (fun K hK => ?_) AllReadyH.nil
  go_simp
  go_at_call 11
  (with_reducible refine (check_is b _ Fb.out.ok DB.out hcb).mono ?_); rintro e wk2 ⟨rfl, hbwk2⟩; have BB := Lib.hid (below_go BB.out hbwk2); have LL := Lib.hid (hL0.out.below BB.out); have Fa := Lib.hid (Fa.out.below hbwk2); have Fb := Lib.hid (Fb.out.below hbwk2); have Fx := Lib.hid (Fx.out.below hbwk2)
  go_wp2_with fail
  refine hK.out _ _ ⟨Fa.out, Fb.out, Fx.out⟩ (fun hHeld => ?_)
  clear hK K
  try simp (config := { maxSteps := 10000000 }) only [Act.put, List.getElem_toArray, List.getElem_cons_zero, List.getElem_cons_succ, List.setIfInBounds_toArray, List.set_cons_zero, List.set_cons_succ]
  refine wpAnyH_take (i := 14) (v := (.bool true)) rfl (by kernel_rfl) (by kernel_rfl) (by kernel_rfl) (fun _ _ _ h => h) (Or.inl ⟨by kernel_rfl, by intro w hSw; clear hSw; go_simp⟩) (by assumption) ?_
  try simp (config := { maxSteps := 10000000 }) only [Act.put, List.getElem_toArray, List.getElem_cons_zero, List.getElem_cons_succ, List.setIfInBounds_toArray, List.set_cons_zero, List.set_cons_succ]
  refine wpAnyH_take (i := 15) (v := (.bool true)) rfl (by kernel_rfl) (by kernel_rfl) (by kernel_rfl) (fun _ _ _ h => h) (Or.inl ⟨by kernel_rfl, by intro w hSw; clear hSw; go_simp⟩) (by assumption) ?_
  try simp (config := { maxSteps := 10000000 }) only [Act.put, List.getElem_toArray, List.getElem_cons_zero, List.getElem_cons_succ, List.setIfInBounds_toArray, List.set_cons_zero, List.set_cons_succ]
  refine wpAnyH_take (i := 16) (v := undef) rfl (by kernel_rfl) (by kernel_rfl) (by kernel_rfl) (fun _ _ _ h => h) (Or.inr ⟨by kernel_rfl, rfl⟩) (by assumption) ?_
  try simp (config := { maxSteps := 10000000 }) only [Act.put, List.getElem_toArray, List.getElem_cons_zero, List.getElem_cons_succ, List.setIfInBounds_toArray, List.set_cons_zero, List.set_cons_succ]
  refine wpAnyH_take (i := 17) (v := undef) rfl (by kernel_rfl) (by kernel_rfl) (by kernel_rfl) (fun _ _ _ h => h) (Or.inr ⟨by kernel_rfl, rfl⟩) (by assumption) ?_
  try simp (config := { maxSteps := 10000000 }) only [Act.put, List.getElem_toArray, List.getElem_cons_zero, List.getElem_cons_succ, List.setIfInBounds_toArray, List.set_cons_zero, List.set_cons_succ]
  refine wpAnyH_take (i := 18) (v := undef) rfl (by kernel_rfl) (by kernel_rfl) (by kernel_rfl) (fun _ _ _ h => h) (Or.inr ⟨by kernel_rfl, rfl⟩) (by assumption) ?_
  try simp (config := { maxSteps := 10000000 }) only [Act.put, List.getElem_toArray, List.getElem_cons_zero, List.getElem_cons_succ, List.setIfInBounds_toArray, List.set_cons_zero, List.set_cons_succ]
  refine wpAnyH_take (i := 19) (v := undef) rfl (by kernel_rfl) (by kernel_rfl) (by kernel_rfl) (fun _ _ _ h => h) (Or.inr ⟨by kernel_rfl, rfl⟩) (by assumption) ?_
  try simp (config := { maxSteps := 10000000 }) only [Act.put, List.getElem_toArray, List.getElem_cons_zero, List.getElem_cons_succ, List.setIfInBounds_toArray, List.set_cons_zero, List.set_cons_succ]
  refine wpAnyH_take (i := 20) (v := undef) rfl (by kernel_rfl) (by kernel_rfl) (by kernel_rfl) (fun _ _ _ h => h) (Or.inr ⟨by kernel_rfl, rfl⟩) (by assumption) ?_
  try simp (config := { maxSteps := 10000000 }) only [Act.put, List.getElem_toArray, List.getElem_cons_zero, List.getElem_cons_succ, List.setIfInBounds_toArray, List.set_cons_zero, List.set_cons_succ]
  refine wpAnyH_take (i := 21) (v := undef) rfl (by kernel_rfl) (by kernel_rfl) (by kernel_rfl) (fun _ _ _ h => h) (Or.inr ⟨by kernel_rfl, rfl⟩) (by assumption) ?_
  try simp (config := { maxSteps := 10000000 }) only [Act.put, List.getElem_toArray, List.getElem_cons_zero, List.getElem_cons_succ, List.setIfInBounds_toArray, List.set_cons_zero, List.set_cons_succ]
  refine wpAnyH_take (i := 22) (v := undef) rfl (by kernel_rfl) (by kernel_rfl) (by kernel_rfl) (fun _ _ _ h => h) (Or.inr ⟨by kernel_rfl, rfl⟩) (by assumption) ?_
  try simp (config := { maxSteps := 10000000 }) only [Act.put, List.getElem_toArray, List.getElem_cons_zero, List.getElem_cons_succ, List.setIfInBounds_toArray, List.set_cons_zero, List.set_cons_succ]
  refine wpAnyH_take (i := 23) (v := undef) rfl (by kernel_rfl) (by kernel_rfl) (by kernel_rfl) (fun _ _ _ h => h) (Or.inr ⟨by kernel_rfl, rfl⟩) (by assumption) ?_
  try simp (config := { maxSteps := 10000000 }) only [Act.put, List.getElem_toArray, List.getElem_cons_zero, List.getElem_cons_succ, List.setIfInBounds_toArray, List.set_cons_zero, List.set_cons_succ]
  refine wpAnyH_take (i := 24) (v := (.bool true)) rfl (by kernel_rfl) (by kernel_rfl) (by kernel_rfl) (fun _ _ _ h => h) (Or.inl ⟨by kernel_rfl, by intro w hSw; clear hSw; go_simp⟩) (by assumption) ?_
  try simp (config := { maxSteps := 10000000 }) only [Act.put, List.getElem_toArray, List.getElem_cons_zero, List.getElem_cons_succ, List.setIfInBounds_toArray, List.set_cons_zero, List.set_cons_succ]
  refine wpAnyH_take (i := 25) (v := (.bool true)) rfl (by kernel_rfl) (by kernel_rfl) (by kernel_rfl) (fun _ _ _ h => h) (Or.inl ⟨by kernel_rfl, by intro w hSw; clear hSw; go_simp⟩) (by assumption) ?_
  try simp (config := { maxSteps := 10000000 }) only [Act.put, List.getElem_toArray, List.getElem_cons_zero, List.getElem_cons_succ, List.setIfInBounds_toArray, List.set_cons_zero, List.set_cons_succ]
  refine wpAnyH_take (i := 26) (v := (.bool true)) rfl (by kernel_rfl) (by kernel_rfl) (by kernel_rfl) (fun _ _ _ h => h) (Or.inl ⟨by kernel_rfl, by intro w hSw; clear hSw; go_simp⟩) (by assumption) ?_
  try simp (config := { maxSteps := 10000000 }) only [Act.put, List.getElem_toArray, List.getElem_cons_zero, List.getElem_cons_succ, List.setIfInBounds_toArray, List.set_cons_zero, List.set_cons_succ]
  refine wpAnyH_ready (rs := [27]) (by kernel_rfl) (by simp) ?_
  refine AllReadyH.cons rfl (fun K hK => ?_) AllReadyH.nil
  go_simp
  go_at_call 8
  (with_reducible refine (awake_any _ LL.out).mono ?_); rintro e wk3 ⟨rfl, hbwk3⟩; have BB := Lib.hid (below_go BB.out hbwk3); have LL := Lib.hid (hL0.out.below BB.out); have Fa := Lib.hid (Fa.out.below hbwk3); have Fb := Lib.hid (Fb.out.below hbwk3); have Fx := Lib.hid (Fx.out.below hbwk3)
  go_wp2_with fail
  refine hK.out _ _ ⟨Fa.out, Fb.out, Fx.out⟩ (fun hHeld => ?_)
  clear hK K
  try simp (config := { maxSteps := 10000000 }) only [Act.put, List.getElem_toArray, List.getElem_cons_zero, List.getElem_cons_succ, List.setIfInBounds_toArray, List.set_cons_zero, List.set_cons_succ]
  refine wpAnyH_take (i := 28) (v := (.bool true)) rfl (by kernel_rfl) (by kernel_rfl) (by kernel_rfl) (fun _ _ _ h => h) (Or.inl ⟨by kernel_rfl, by intro w hSw; clear hSw; go_simp⟩) (by assumption) ?_
  try simp (config := { maxSteps := 10000000 }) only [Act.put, List.getElem_toArray, List.getElem_cons_zero, List.getElem_cons_succ, List.setIfInBounds_toArray, List.set_cons_zero, List.set_cons_succ]
  refine wpAnyH_take (i := 29) (v := (.bool true)) rfl (by kernel_rfl) (by kernel_rfl) (by kernel_rfl) (fun _ _ _ h => h) (Or.inl ⟨by kernel_rfl, by intro w hSw; clear hSw; go_simp⟩) (by assumption) ?_
  try simp (config := { maxSteps := 10000000 }) only [Act.put, List.getElem_toArray, List.getElem_cons_zero, List.getElem_cons_succ, List.setIfInBounds_toArray, List.set_cons_zero, List.set_cons_succ]
  refine wpAnyH_done (by kernel_rfl) ?_ _
  go_wp2_with fail
  go_ret
  exact ⟨rfl, BB.out⟩
set_option linter.unusedSimpArgs false in
set_option maxRecDepth 100000 in
set_option maxHeartbeats 16000000 in
theorem back_good (a b : Nd) (w : World) (hG : ErG w) (ha : a.ok w []) (hb : b.ok w []) (hda : Bd (a.fo .nil)) (hdb : Bd (b.fo .nil)) (hla : Lb (a.fo .nil)) (hlb : Lb (b.fo .nil)) (hca : Hid (checkE a.k a.l a.kids a.mn a.mx = 0)) (hcb : Hid (checkE b.k b.l b.kids b.mn b.mx = 0)) :
    Calls Tryd.prog 7 #[a.v, b.v] w fun e w' => e = .returned (.bool true) ∧ Below w.heap.size w w' := by
  obtain ⟨T, hT⟩ : ∃ T, textT a.k a.l a.kids a.mn a.mx = T := ⟨_, rfl⟩
  have HT := Lib.hid hT
  have hne : T ≠ [] := fun e => textT_ne.1 (hT.trans e) hca.out
  have te : (T == []) = false := by cases T with | nil => exact absurd rfl hne | cons => rfl
  have te2 : T.isEmpty = false := by cases T with | nil => exact absurd rfl hne | cons => rfl
  obtain ⟨T2, hT2⟩ : ∃ T2, textT b.k b.l b.kids b.mn b.mx = T2 := ⟨_, rfl⟩
  have HT2 := Lib.hid hT2
  obtain ⟨Q, hQ0⟩ : ∃ Q : Bool, sameL (a.fo .nil) (b.fo .nil) = Q := ⟨_, rfl⟩
  have hQ := Lib.hid hQ0
  have tQ : (T == T2) = Q := by
    rw [← hQ0, ← hT, ← hT2, ← text_same hca.out hcb.out]
    by_cases e : textT a.k a.l a.kids a.mn a.mx = textT b.k b.l b.kids b.mn b.mx
    · rw [decide_eq_true e, e]; exact beq_self_eq_true _
    · rw [decide_eq_false e, beq_eq_false_iff_ne]; exact e
  clear hT2 hQ0
  clear hT hne
  have h2 := boxed2 ha hb
  have Fa := Lib.hid h2.1
  have Fb := Lib.hid h2.2.1
  have BB := Lib.hid h2.2.2
  have LL := Lib.hid (hG.below h2.2.2)
  have hL0 := Lib.hid hG
  have DA := Lib.hid hda
  have DB := Lib.hid hdb
  have LA := Lib.hid hla
  have LB := Lib.hid hlb
  clear h2
  clear hG ha hb hda hdb hla hlb
  obtain ⟨a0, a1, a2, a3, a4, _⟩ := Fa.out
  obtain ⟨b0, b1, b2, b3, b4, _⟩ := Fb.out
  have PP : Hid (∀ w1 : World, ErG w1 → Calls Tryd.prog 15 #[strV T] w1 fun e w' => ∃ x : Nd, e = .returned (.tuple #[x.v, .int .i64 0]) ∧ x.fo .nil = nrm (a.fo .nil) ∧ x.ok w' [] ∧ Below w1.heap.size w1 w') := fun w1 hG => by
    have := parse_of a w1 hG hca.out
    rwa [HT.out] at this
  unfold Nd.v
  go_enter Tryd.func7, Tryd.ntmps7
  go_wp2_with (go_at_call 10; (with_reducible refine (small_any a [] _ Fa.out.ok LA.out).mono ?_); rintro e w1 ⟨⟨B1, rfl⟩, hbw1⟩; have Fa := Lib.hid (Fa.out.below hbw1); have Fb := Lib.hid (Fb.out.below hbw1); have BB := Lib.hid (below_go BB.out hbw1); have LL := Lib.hid (hL0.out.below BB.out); clear hbw1; obtain ⟨a0, a1, a2, a3, a4, _⟩ := Fa.out; obtain ⟨b0, b1, b2, b3, b4, _⟩ := Fb.out; refine Hid.out ?_)
  cases B1
  · refine Lib.hid ?_
    go_wp2_with (go_at_call 8; (with_reducible refine (awake_any _ LL.out).mono ?_); rintro e wz ⟨rfl, hbz⟩)
    go_ret
    exact ⟨rfl, below_go BB.out hbz⟩
  refine Lib.hid ?_
  go_wp2_with (go_at_call 10; (with_reducible refine (small_any b [] _ Fb.out.ok LB.out).mono ?_); rintro e w2 ⟨⟨B2, rfl⟩, hbw2⟩; have Fa := Lib.hid (Fa.out.below hbw2); have Fb := Lib.hid (Fb.out.below hbw2); have BB := Lib.hid (below_go BB.out hbw2); have LL := Lib.hid (hL0.out.below BB.out); clear hbw2; obtain ⟨a0, a1, a2, a3, a4, _⟩ := Fa.out; obtain ⟨b0, b1, b2, b3, b4, _⟩ := Fb.out; refine Hid.out ?_)
  cases B2
  · refine Lib.hid ?_
    go_wp2_with (go_at_call 8; (with_reducible refine (awake_any _ LL.out).mono ?_); rintro e wz ⟨rfl, hbz⟩)
    go_ret
    exact ⟨rfl, below_go BB.out hbz⟩
  refine Lib.hid ?_
  go_wp2_with (first
    | (go_at_call 12; (with_reducible refine (text_is a _ Fa.out.ok DA.out HT).mono ?_); rintro e w3 ⟨rfl, hbw3⟩; have Fa := Lib.hid (Fa.out.below hbw3); have Fb := Lib.hid (Fb.out.below hbw3); have BB := Lib.hid (below_go BB.out hbw3); have LL := Lib.hid (hL0.out.below BB.out); clear hbw3; obtain ⟨a0, a1, a2, a3, a4, _⟩ := Fa.out; obtain ⟨b0, b1, b2, b3, b4, _⟩ := Fb.out)
    | (go_at_call 11; (with_reducible refine (check_is a _ Fa.out.ok DA.out hca).mono ?_); rintro e w4 ⟨rfl, hbw4⟩; have Fa := Lib.hid (Fa.out.below hbw4); have Fb := Lib.hid (Fb.out.below hbw4); have BB := Lib.hid (below_go BB.out hbw4); have LL := Lib.hid (hL0.out.below BB.out); clear hbw4; obtain ⟨a0, a1, a2, a3, a4, _⟩ := Fa.out; obtain ⟨b0, b1, b2, b3, b4, _⟩ := Fb.out)
    | (go_at_call 15; (with_reducible refine (PP.out _ LL.out).mono ?_); rintro e w5 ⟨x, rfl, hxf, hxo, hbw5⟩; have HXF := Lib.hid hxf; have Fx := Lib.hid (Pv.new w5 x hxo); have Fa := Lib.hid ((Fa.out.below hbw5).al (cells5 x.k x.l x.A x.kids.len x.c x.mn x.mx)); have Fb := Lib.hid ((Fb.out.below hbw5).al (cells5 x.k x.l x.A x.kids.len x.c x.mn x.mx)); have BB := Lib.hid (below_go (below_go BB.out hbw5) ((Below.refl _ _).alloc (Nat.le_refl _) (cells5 x.k x.l x.A x.kids.len x.c x.mn x.mx))); clear hbw5 hxf hxo))
  clear a0 a1 a2 a3 a4 b0 b1 b2 b3 b4
  have BB := Lib.hid (below_go BB.out (Below.refl _ _).drew)
  have LL := Lib.hid (hL0.out.below BB.out)
  have Fa := Lib.hid Fa.out.drew
  have Fb := Lib.hid Fb.out.drew
  have Fx := Lib.hid Fx.out.drew
  refine wp_region_held_drew (S := fun w' => Pv w' (w.heap.size) a ∧ Pv w' (w.heap.size + 1) b ∧ Pv w' (w5.heap.size) x) (by kernel_rfl) ⟨Fa.out, Fb.out, Fx.out⟩ (fun hHeld => ?_)
  refine wpAnyH_take (i := 0) (v := (.int .i64 0)) rfl (by kernel_rfl) (by kernel_rfl) (by kernel_rfl) (fun _ _ _ h => h) (Or.inl ⟨by kernel_rfl, by intro w hSw; clear hSw; go_simp⟩) (by assumption) ?_
  try simp (config := { maxSteps := 10000000 }) only [Act.put, List.getElem_toArray, List.getElem_cons_zero, List.getElem_cons_succ, List.setIfInBounds_toArray, List.set_cons_zero, List.set_cons_succ]
  refine wpAnyH_take (i := 1) (v := (.bool true)) rfl (by kernel_rfl) (by kernel_rfl) (by kernel_rfl) (fun _ _ _ h => h) (Or.inl ⟨by kernel_rfl, by intro w hSw; clear hSw; go_simp⟩) (by assumption) ?_
  try simp (config := { maxSteps := 10000000 }) only [Act.put, List.getElem_toArray, List.getElem_cons_zero, List.getElem_cons_succ, List.setIfInBounds_toArray, List.set_cons_zero, List.set_cons_succ]
  refine wpAnyH_take (i := 2) (v := (.bool true)) rfl (by kernel_rfl) (by kernel_rfl) (by kernel_rfl) (fun _ _ _ h => h) (Or.inl ⟨by kernel_rfl, by intro w hSw; clear hSw; go_simp⟩) (by assumption) ?_
  try simp (config := { maxSteps := 10000000 }) only [Act.put, List.getElem_toArray, List.getElem_cons_zero, List.getElem_cons_succ, List.setIfInBounds_toArray, List.set_cons_zero, List.set_cons_succ]
  refine wpAnyH_take (i := 3) (v := (.agg #[.int .i64 x.k, .string x.l, .slice x.A x.kids.len x.c, .int .i64 x.mn, .int .i64 x.mx])) rfl (by kernel_rfl) (by kernel_rfl) (by kernel_rfl) (fun _ _ _ h => h) (Or.inl ⟨by kernel_rfl, by intro w hSw; (try dsimp only at hSw); obtain ⟨hl0, hl1, hl2⟩ := hSw; obtain ⟨k0, k1, k2, k3, k4, _⟩ := hl2; clear hl0 hl1; go_simp⟩) (by assumption) ?_
  try simp (config := { maxSteps := 10000000 }) only [Act.put, List.getElem_toArray, List.getElem_cons_zero, List.getElem_cons_succ, List.setIfInBounds_toArray, List.set_cons_zero, List.set_cons_succ]
  refine wpAnyH_take (i := 4) (v := (.agg #[.int .i64 a.k, .string a.l, .slice a.A a.kids.len a.c, .int .i64 a.mn, .int .i64 a.mx])) rfl (by kernel_rfl) (by kernel_rfl) (by kernel_rfl) (fun _ _ _ h => h) (Or.inl ⟨by kernel_rfl, by intro w hSw; (try dsimp only at hSw); obtain ⟨hl0, hl1, hl2⟩ := hSw; obtain ⟨k0, k1, k2, k3, k4, _⟩ := hl0; clear hl1 hl2; go_simp⟩) (by assumption) ?_
  try simp (config := { maxSteps := 10000000 }) only [Act.put, List.getElem_toArray, List.getElem_cons_zero, List.getElem_cons_succ, List.setIfInBounds_toArray, List.set_cons_zero, List.set_cons_succ]
  refine wpAnyH_ready (rs := [5]) (by kernel_rfl) (by simp) ?_
  refine AllReadyH.cons rfl (fun K hK => ?_) AllReadyH.nil
  go_simp
  go_at_call 19
  (with_reducible refine (same_of x a _ Fx.out.ok Fa.out.ok HXF.out).mono ?_); rintro e wk1 ⟨rfl, hbwk1⟩; have BB := Lib.hid (below_go BB.out hbwk1); have LL := Lib.hid (hL0.out.below BB.out); have Fa := Lib.hid (Fa.out.below hbwk1); have Fb := Lib.hid (Fb.out.below hbwk1); have Fx := Lib.hid (Fx.out.below hbwk1)
  go_wp2_with fail
  refine hK.out _ _ ⟨Fa.out, Fb.out, Fx.out⟩ (fun hHeld => ?_)
  clear hK K
  try simp (config := { maxSteps := 10000000 }) only [Act.put, List.getElem_toArray, List.getElem_cons_zero, List.getElem_cons_succ, List.setIfInBounds_toArray, List.set_cons_zero, List.set_cons_succ]
  refine wpAnyH_take (i := 6) (v := (.bool true)) rfl (by kernel_rfl) (by kernel_rfl) (by kernel_rfl) (fun _ _ _ h => h) (Or.inl ⟨by kernel_rfl, by intro w hSw; clear hSw; go_simp⟩) (by assumption) ?_
  try simp (config := { maxSteps := 10000000 }) only [Act.put, List.getElem_toArray, List.getElem_cons_zero, List.getElem_cons_succ, List.setIfInBounds_toArray, List.set_cons_zero, List.set_cons_succ]
  refine wpAnyH_take (i := 7) (v := (.bool true)) rfl (by kernel_rfl) (by kernel_rfl) (by kernel_rfl) (fun _ _ _ h => h) (Or.inl ⟨by kernel_rfl, by intro w hSw; clear hSw; go_simp⟩) (by assumption) ?_
  try simp (config := { maxSteps := 10000000 }) only [Act.put, List.getElem_toArray, List.getElem_cons_zero, List.getElem_cons_succ, List.setIfInBounds_toArray, List.set_cons_zero, List.set_cons_succ]
  refine wpAnyH_take (i := 8) (v := (strV T)) rfl (by kernel_rfl) (by kernel_rfl) (by kernel_rfl) (fun _ _ _ h => h) (Or.inl ⟨by kernel_rfl, by intro w hSw; clear hSw; go_simp⟩) (by assumption) ?_
  try simp (config := { maxSteps := 10000000 }) only [Act.put, List.getElem_toArray, List.getElem_cons_zero, List.getElem_cons_succ, List.setIfInBounds_toArray, List.set_cons_zero, List.set_cons_succ]
  refine wpAnyH_take (i := 9) (v := (.bool true)) rfl (by kernel_rfl) (by kernel_rfl) (by kernel_rfl) (fun _ _ _ h => h) (Or.inl ⟨by kernel_rfl, by intro w hSw; clear hSw; go_simp⟩) (by assumption) ?_
  try simp (config := { maxSteps := 10000000 }) only [Act.put, List.getElem_toArray, List.getElem_cons_zero, List.getElem_cons_succ, List.setIfInBounds_toArray, List.set_cons_zero, List.set_cons_succ]
  refine wpAnyH_take (i := 10) (v := (.bool true)) rfl (by kernel_rfl) (by kernel_rfl) (by kernel_rfl) (fun _ _ _ h => h) (Or.inl ⟨by kernel_rfl, by intro w hSw; clear hSw; go_simp⟩) (by assumption) ?_
  try simp (config := { maxSteps := 10000000 }) only [Act.put, List.getElem_toArray, List.getElem_cons_zero, List.getElem_cons_succ, List.setIfInBounds_toArray, List.set_cons_zero, List.set_cons_succ]
  refine wpAnyH_take (i := 11) (v := (.bool true)) rfl (by kernel_rfl) (by kernel_rfl) (by kernel_rfl) (fun _ _ _ h => h) (Or.inl ⟨by kernel_rfl, by intro w hSw; clear hSw; go_simp⟩) (by assumption) ?_
  try simp (config := { maxSteps := 10000000 }) only [Act.put, List.getElem_toArray, List.getElem_cons_zero, List.getElem_cons_succ, List.setIfInBounds_toArray, List.set_cons_zero, List.set_cons_succ]
  refine wpAnyH_take (i := 12) (v := (.agg #[.int .i64 b.k, .string b.l, .slice b.A b.kids.len b.c, .int .i64 b.mn, .int .i64 b.mx])) rfl (by kernel_rfl) (by kernel_rfl) (by kernel_rfl) (fun _ _ _ h => h) (Or.inl ⟨by kernel_rfl, by intro w hSw; (try dsimp only at hSw); obtain ⟨hl0, hl1, hl2⟩ := hSw; obtain ⟨k0, k1, k2, k3, k4, _⟩ := hl1; clear hl0 hl2; go_simp⟩) (by assumption) ?_
  try simp (config := { maxSteps := 10000000 }) only [Act.put, List.getElem_toArray, List.getElem_cons_zero, List.getElem_cons_succ, List.setIfInBounds_toArray, List.set_cons_zero, List.set_cons_succ]
  refine wpAnyH_ready (rs := [13]) (by kernel_rfl) (by simp) ?_
  refine AllReadyH.cons rfl (fun K hK => ?_) AllReadyH.nil
  go_simp
  go_at_call 11
  (with_reducible refine (check_is b _ Fb.out.ok DB.out hcb).mono ?_); rintro e wk2 ⟨rfl, hbwk2⟩; have BB := Lib.hid (below_go BB.out hbwk2); have LL := Lib.hid (hL0.out.below BB.out); have Fa := Lib.hid (Fa.out.below hbwk2); have Fb := Lib.hid (Fb.out.below hbwk2); have Fx := Lib.hid (Fx.out.below hbwk2)
  go_wp2_with fail
  refine hK.out _ _ ⟨Fa.out, Fb.out, Fx.out⟩ (fun hHeld => ?_)
  clear hK K
  try simp (config := { maxSteps := 10000000 }) only [Act.put, List.getElem_toArray, List.getElem_cons_zero, List.getElem_cons_succ, List.setIfInBounds_toArray, List.set_cons_zero, List.set_cons_succ]
  refine wpAnyH_take (i := 14) (v := (.bool false)) rfl (by kernel_rfl) (by kernel_rfl) (by kernel_rfl) (fun _ _ _ h => h) (Or.inl ⟨by kernel_rfl, by intro w hSw; clear hSw; go_simp⟩) (by assumption) ?_
  try simp (config := { maxSteps := 10000000 }) only [Act.put, List.getElem_toArray, List.getElem_cons_zero, List.getElem_cons_succ, List.setIfInBounds_toArray, List.set_cons_zero, List.set_cons_succ]
  refine wpAnyH_take (i := 15) (v := (.bool false)) rfl (by kernel_rfl) (by kernel_rfl) (by kernel_rfl) (fun _ _ _ h => h) (Or.inl ⟨by kernel_rfl, by intro w hSw; clear hSw; go_simp⟩) (by assumption) ?_
  try simp (config := { maxSteps := 10000000 }) only [Act.put, List.getElem_toArray, List.getElem_cons_zero, List.getElem_cons_succ, List.setIfInBounds_toArray, List.set_cons_zero, List.set_cons_succ]
  refine wpAnyH_take (i := 16) (v := (strV T)) rfl (by kernel_rfl) (by kernel_rfl) (by kernel_rfl) (fun _ _ _ h => h) (Or.inl ⟨by kernel_rfl, by intro w hSw; clear hSw; go_simp⟩) (by assumption) ?_
  try simp (config := { maxSteps := 10000000 }) only [Act.put, List.getElem_toArray, List.getElem_cons_zero, List.getElem_cons_succ, List.setIfInBounds_toArray, List.set_cons_zero, List.set_cons_succ]
  refine wpAnyH_take (i := 17) (v := (.agg #[.int .i64 b.k, .string b.l, .slice b.A b.kids.len b.c, .int .i64 b.mn, .int .i64 b.mx])) rfl (by kernel_rfl) (by kernel_rfl) (by kernel_rfl) (fun _ _ _ h => h) (Or.inl ⟨by kernel_rfl, by intro w hSw; (try dsimp only at hSw); obtain ⟨hl0, hl1, hl2⟩ := hSw; obtain ⟨k0, k1, k2, k3, k4, _⟩ := hl1; clear hl0 hl2; go_simp⟩) (by assumption) ?_
  try simp (config := { maxSteps := 10000000 }) only [Act.put, List.getElem_toArray, List.getElem_cons_zero, List.getElem_cons_succ, List.setIfInBounds_toArray, List.set_cons_zero, List.set_cons_succ]
  refine wpAnyH_take (i := 20) (v := (.agg #[.int .i64 a.k, .string a.l, .slice a.A a.kids.len a.c, .int .i64 a.mn, .int .i64 a.mx])) rfl (by kernel_rfl) (by kernel_rfl) (by kernel_rfl) (fun _ _ _ h => h) (Or.inl ⟨by kernel_rfl, by intro w hSw; (try dsimp only at hSw); obtain ⟨hl0, hl1, hl2⟩ := hSw; obtain ⟨k0, k1, k2, k3, k4, _⟩ := hl0; clear hl1 hl2; go_simp⟩) (by assumption) ?_
  try simp (config := { maxSteps := 10000000 }) only [Act.put, List.getElem_toArray, List.getElem_cons_zero, List.getElem_cons_succ, List.setIfInBounds_toArray, List.set_cons_zero, List.set_cons_succ]
  refine wpAnyH_take (i := 21) (v := (.agg #[.int .i64 b.k, .string b.l, .slice b.A b.kids.len b.c, .int .i64 b.mn, .int .i64 b.mx])) rfl (by kernel_rfl) (by kernel_rfl) (by kernel_rfl) (fun _ _ _ h => h) (Or.inl ⟨by kernel_rfl, by intro w hSw; (try dsimp only at hSw); obtain ⟨hl0, hl1, hl2⟩ := hSw; obtain ⟨k0, k1, k2, k3, k4, _⟩ := hl1; clear hl0 hl2; go_simp⟩) (by assumption) ?_
  try simp (config := { maxSteps := 10000000 }) only [Act.put, List.getElem_toArray, List.getElem_cons_zero, List.getElem_cons_succ, List.setIfInBounds_toArray, List.set_cons_zero, List.set_cons_succ]
  refine wpAnyH_ready (rs := [18]) (by kernel_rfl) (by simp) ?_
  refine AllReadyH.cons rfl (fun K hK => ?_) AllReadyH.nil
  go_simp
  go_at_call 12
  (with_reducible refine (text_is b _ Fb.out.ok DB.out HT2).mono ?_); rintro e wk3 ⟨rfl, hbwk3⟩; have BB := Lib.hid (below_go BB.out hbwk3); have LL := Lib.hid (hL0.out.below BB.out); have Fa := Lib.hid (Fa.out.below hbwk3); have Fb := Lib.hid (Fb.out.below hbwk3); have Fx := Lib.hid (Fx.out.below hbwk3)
  go_wp2_with fail
  refine hK.out _ _ ⟨Fa.out, Fb.out, Fx.out⟩ (fun hHeld => ?_)
  clear hK K
  try simp (config := { maxSteps := 10000000 }) only [Act.put, List.getElem_toArray, List.getElem_cons_zero, List.getElem_cons_succ, List.setIfInBounds_toArray, List.set_cons_zero, List.set_cons_succ]
  refine wpAnyH_take (i := 19) (v := (.bool Q)) rfl (by kernel_rfl) (by kernel_rfl) (by kernel_rfl) (fun _ _ _ h => h) (Or.inl ⟨by kernel_rfl, by intro w hSw; clear hSw; go_simp⟩) (by assumption) ?_
  try simp (config := { maxSteps := 10000000 }) only [Act.put, List.getElem_toArray, List.getElem_cons_zero, List.getElem_cons_succ, List.setIfInBounds_toArray, List.set_cons_zero, List.set_cons_succ]
  refine wpAnyH_ready (rs := [22]) (by kernel_rfl) (by simp) ?_
  refine AllReadyH.cons rfl (fun K hK => ?_) AllReadyH.nil
  go_simp
  go_at_call 19
  (with_reducible refine (same_is a b _ Fa.out.ok Fb.out.ok hQ).mono ?_); rintro e wk4 ⟨rfl, hbwk4⟩; have BB := Lib.hid (below_go BB.out hbwk4); have LL := Lib.hid (hL0.out.below BB.out); have Fa := Lib.hid (Fa.out.below hbwk4); have Fb := Lib.hid (Fb.out.below hbwk4); have Fx := Lib.hid (Fx.out.below hbwk4)
  go_wp2_with fail
  refine hK.out _ _ ⟨Fa.out, Fb.out, Fx.out⟩ (fun hHeld => ?_)
  clear hK K
  try simp (config := { maxSteps := 10000000 }) only [Act.put, List.getElem_toArray, List.getElem_cons_zero, List.getElem_cons_succ, List.setIfInBounds_toArray, List.set_cons_zero, List.set_cons_succ]
  refine wpAnyH_take (i := 23) (v := (.bool true)) rfl (by kernel_rfl) (by kernel_rfl) (by kernel_rfl) (fun _ _ _ h => h) (Or.inl ⟨by kernel_rfl, by intro w hSw; clear hSw; go_simp⟩) (by assumption) ?_
  try simp (config := { maxSteps := 10000000 }) only [Act.put, List.getElem_toArray, List.getElem_cons_zero, List.getElem_cons_succ, List.setIfInBounds_toArray, List.set_cons_zero, List.set_cons_succ]
  refine wpAnyH_take (i := 24) (v := (.bool true)) rfl (by kernel_rfl) (by kernel_rfl) (by kernel_rfl) (fun _ _ _ h => h) (Or.inl ⟨by kernel_rfl, by intro w hSw; clear hSw; go_simp⟩) (by assumption) ?_
  try simp (config := { maxSteps := 10000000 }) only [Act.put, List.getElem_toArray, List.getElem_cons_zero, List.getElem_cons_succ, List.setIfInBounds_toArray, List.set_cons_zero, List.set_cons_succ]
  refine wpAnyH_take (i := 25) (v := (.bool true)) rfl (by kernel_rfl) (by kernel_rfl) (by kernel_rfl) (fun _ _ _ h => h) (Or.inl ⟨by kernel_rfl, by intro w hSw; clear hSw; go_simp⟩) (by assumption) ?_
  try simp (config := { maxSteps := 10000000 }) only [Act.put, List.getElem_toArray, List.getElem_cons_zero, List.getElem_cons_succ, List.setIfInBounds_toArray, List.set_cons_zero, List.set_cons_succ]
  refine wpAnyH_take (i := 26) (v := (.bool true)) rfl (by kernel_rfl) (by kernel_rfl) (by kernel_rfl) (fun _ _ _ h => h) (Or.inl ⟨by kernel_rfl, by intro w hSw; clear hSw; go_simp⟩) (by assumption) ?_
  try simp (config := { maxSteps := 10000000 }) only [Act.put, List.getElem_toArray, List.getElem_cons_zero, List.getElem_cons_succ, List.setIfInBounds_toArray, List.set_cons_zero, List.set_cons_succ]
  refine wpAnyH_ready (rs := [27]) (by kernel_rfl) (by simp) ?_
  refine AllReadyH.cons rfl (fun K hK => ?_) AllReadyH.nil
  go_simp
  go_at_call 8
  (with_reducible refine (awake_any _ LL.out).mono ?_); rintro e wk5 ⟨rfl, hbwk5⟩; have BB := Lib.hid (below_go BB.out hbwk5); have LL := Lib.hid (hL0.out.below BB.out); have Fa := Lib.hid (Fa.out.below hbwk5); have Fb := Lib.hid (Fb.out.below hbwk5); have Fx := Lib.hid (Fx.out.below hbwk5)
  go_wp2_with fail
  refine hK.out _ _ ⟨Fa.out, Fb.out, Fx.out⟩ (fun hHeld => ?_)
  clear hK K
  try simp (config := { maxSteps := 10000000 }) only [Act.put, List.getElem_toArray, List.getElem_cons_zero, List.getElem_cons_succ, List.setIfInBounds_toArray, List.set_cons_zero, List.set_cons_succ]
  refine wpAnyH_take (i := 28) (v := (.bool true)) rfl (by kernel_rfl) (by kernel_rfl) (by kernel_rfl) (fun _ _ _ h => h) (Or.inl ⟨by kernel_rfl, by intro w hSw; clear hSw; go_simp⟩) (by assumption) ?_
  try simp (config := { maxSteps := 10000000 }) only [Act.put, List.getElem_toArray, List.getElem_cons_zero, List.getElem_cons_succ, List.setIfInBounds_toArray, List.set_cons_zero, List.set_cons_succ]
  refine wpAnyH_take (i := 29) (v := (.bool true)) rfl (by kernel_rfl) (by kernel_rfl) (by kernel_rfl) (fun _ _ _ h => h) (Or.inl ⟨by kernel_rfl, by intro w hSw; clear hSw; go_simp⟩) (by assumption) ?_
  try simp (config := { maxSteps := 10000000 }) only [Act.put, List.getElem_toArray, List.getElem_cons_zero, List.getElem_cons_succ, List.setIfInBounds_toArray, List.set_cons_zero, List.set_cons_succ]
  refine wpAnyH_done (by kernel_rfl) ?_ _
  go_wp2_with fail
  go_ret
  exact ⟨rfl, BB.out⟩
theorem pathBack_law (a b : Nd) (w : World) (hG : ErG w) (ha : a.ok w []) (hda : Bd (a.fo .nil) ∧ Lb (a.fo .nil)) (hb : b.ok w []) (hdb : Bd (b.fo .nil) ∧ Lb (b.fo .nil)) :
    Calls Tryd.prog 7 #[a.v, b.v] w fun e w' => e = .returned (.bool true) ∧ Below w.heap.size w w' := by
  by_cases h1 : checkE a.k a.l a.kids a.mn a.mx = 0
  · by_cases h2 : checkE b.k b.l b.kids b.mn b.mx = 0
    · exact back_good a b w hG ha hb hda.1 hdb.1 hda.2 hdb.2 (Lib.hid h1) (Lib.hid h2)
    · exact back_bad a b w hG ha hb hda.1 hdb.1 hda.2 hdb.2 (Lib.hid h1) _ (by rw [bne_iff_ne]; exact h2) (Lib.hid rfl)
  · exact back_no a b w hG ha hb hda.1 hdb.1 hda.2 hdb.2 _ (by rw [bne_iff_ne]; exact h1) (Lib.hid rfl)
end Go.Proofs.YthbodojhddmbhaaDoor.Pa
