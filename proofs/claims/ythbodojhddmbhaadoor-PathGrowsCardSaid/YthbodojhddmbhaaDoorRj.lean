/- The law PathBinds. Conditions: the trees can be read; the library's two errors can be read. -/
import Derived.Test.YthbodojhddmbhaaDoorRi
import Derived.Deep.RegionHeld3
namespace Go.Proofs.YthbodojhddmbhaaDoor.Pa
open Go.RowKit Go.Lib Na Go.PN

/-- Two paths in a row of their own; one. -/
@[reducible] def two (k : Int) (L : Nat) (a b : Nd) : Nd := ⟨k, ⟨#[]⟩, some ⟨L, 0, none⟩, 2, 0, 0, a.fo (b.fo .nil)⟩
@[reducible] def solo (k : Int) (L : Nat) (a : Nd) : Nd := ⟨k, ⟨#[]⟩, some ⟨L, 0, none⟩, 1, 0, 0, a.fo .nil⟩
abbrev ten (a b : Nd) : Obj := .cells #[.int .i64 a.k, .string a.l, .slice a.A a.kids.len a.c, .int .i64 a.mn, .int .i64 a.mx, .int .i64 b.k, .string b.l, .slice b.A b.kids.len b.c, .int .i64 b.mn, .int .i64 b.mx] 27
theorem two_pv (k : Int) (w : World) {a b : Nd} (ha : a.ok w []) (hb : b.ok w []) : Pv ((w.alloc (cells5 k ⟨#[]⟩ (some ⟨w.heap.size + 1, 0, none⟩) 2 2 0 0)).alloc (ten a b)) w.heap.size (two k (w.heap.size + 1) a b) := by
  have h := Bx.new w (.int .i64 k) (.string ⟨#[]⟩) (.slice (some ⟨w.heap.size + 1, 0, none⟩) 2 2) (.int .i64 0) (.int .i64 0) 27
  have h2 := h.al (ten a b)
  have hs : (w.alloc (cells5 k ⟨#[]⟩ (some ⟨w.heap.size + 1, 0, none⟩) 2 2 0 0)).heap.size = w.heap.size + 1 := by simp
  refine ⟨h2.c0, h2.c1, h2.c2, h2.c3, h2.c4, Nat.le_refl _, (show (2 : Nat) ≤ 9223372036854775807 by decide), w.heap.size + 1, 0, a.A, a.c, rfl, by simp, ?_, ha.1, ha.2.1, ((ha.al _).al _).2.2, w.heap.size + 1, 5, b.A, b.c, rfl, by simp, ?_, hb.1, hb.2.1, ((hb.al _).al _).2.2, trivial⟩
  · unfold Cel; rw [← hs]; refine ⟨?_, ?_, ?_, ?_, ?_⟩ <;> go_simp
  · unfold Cel; rw [← hs]; refine ⟨?_, ?_, ?_, ?_, ?_⟩ <;> go_simp
theorem solo_pv (k : Int) (w : World) {a : Nd} (ha : a.ok w []) : Pv ((w.alloc (cells5 k ⟨#[]⟩ (some ⟨w.heap.size + 1, 0, none⟩) 1 1 0 0)).alloc (cells5 a.k a.l a.A a.kids.len a.c a.mn a.mx)) w.heap.size (solo k (w.heap.size + 1) a) := by
  have h := Bx.new w (.int .i64 k) (.string ⟨#[]⟩) (.slice (some ⟨w.heap.size + 1, 0, none⟩) 1 1) (.int .i64 0) (.int .i64 0) 27
  have h2 := h.al (cells5 a.k a.l a.A a.kids.len a.c a.mn a.mx)
  have hs : (w.alloc (cells5 k ⟨#[]⟩ (some ⟨w.heap.size + 1, 0, none⟩) 1 1 0 0)).heap.size = w.heap.size + 1 := by simp
  refine ⟨h2.c0, h2.c1, h2.c2, h2.c3, h2.c4, Nat.le_refl _, (show (1 : Nat) ≤ 9223372036854775807 by decide), w.heap.size + 1, 0, a.A, a.c, rfl, by simp, ?_, ha.1, ha.2.1, ((ha.al _).al _).2.2, trivial⟩
  unfold Cel; rw [← hs]; refine ⟨?_, ?_, ?_, ?_, ?_⟩ <;> go_simp
theorem text_has (a : Nd) (w : World) (h : a.ok w []) (hbd : Bd (a.fo .nil)) {S : ByteArray} (hT : Hid (⟨(textT a.k a.l a.kids a.mn a.mx).toArray⟩ = S)) : Calls Tryd.prog 12 #[a.v] w fun e w' => e = .returned (.string S) ∧ Below w.heap.size w w' := by
  have h1 := Text_any a [] w h hbd
  have e : strV (textT a.k a.l a.kids a.mn a.mx) = .string S := congrArg Value.string hT.out
  rwa [e] at h1
theorem bd_two {a b : Nd} (ha : Bd (a.fo .nil)) (hb : Bd (b.fo .nil)) (k : Int) (L : Nat) : Bd ((two k L a b).fo .nil) := by
  unfold Nd.fo two Nd.fo at *
  simp only [Bd] at *
  exact ⟨⟨by decide, by decide⟩, ⟨by decide, by decide⟩, ⟨ha.1, ha.2.1, ha.2.2.1, hb.1, hb.2.1, hb.2.2.1, trivial⟩, trivial⟩
theorem bd_solo {a : Nd} (ha : Bd (a.fo .nil)) (k : Int) (L : Nat) : Bd ((solo k L a).fo .nil) := by
  unfold Nd.fo solo Nd.fo at *
  simp only [Bd] at *
  exact ⟨⟨by decide, by decide⟩, ⟨by decide, by decide⟩, ⟨ha.1, ha.2.1, ha.2.2.1, trivial⟩, trivial⟩
/-- What its variable holds, in figures. -/
theorem two_cells {w : World} {g : Nat} {k : Int} {L : Nat} {a b : Nd} (h : Pv w g (two k L a b)) : w.cell? ⟨g, 0, none⟩ = some (.int .i64 k) ∧ w.cell? ⟨g, 1, none⟩ = some (.string ⟨#[]⟩) ∧ w.cell? ⟨g, 2, none⟩ = some (.slice (some ⟨L, 0, none⟩) 2 2) ∧ w.cell? ⟨g, 3, none⟩ = some (.int .i64 0) ∧ w.cell? ⟨g, 4, none⟩ = some (.int .i64 0) := ⟨h.1, h.2.1, h.2.2.1, h.2.2.2.1, h.2.2.2.2.1⟩
theorem solo_cells {w : World} {g : Nat} {k : Int} {L : Nat} {a : Nd} (h : Pv w g (solo k L a)) : w.cell? ⟨g, 0, none⟩ = some (.int .i64 k) ∧ w.cell? ⟨g, 1, none⟩ = some (.string ⟨#[]⟩) ∧ w.cell? ⟨g, 2, none⟩ = some (.slice (some ⟨L, 0, none⟩) 1 1) ∧ w.cell? ⟨g, 3, none⟩ = some (.int .i64 0) ∧ w.cell? ⟨g, 4, none⟩ = some (.int .i64 0) := ⟨h.1, h.2.1, h.2.2.1, h.2.2.2.1, h.2.2.2.2.1⟩
theorem check_two {a b : Nd} {k : Int} {L : Nat} {w : World} (h : (two k L a b).ok w []) (hbd : Bd ((two k L a b).fo .nil)) {E : Int} (hE : Hid (checkE k ⟨#[]⟩ (a.fo (b.fo .nil)) 0 0 = E)) : Calls Tryd.prog 11 #[.agg #[.int .i64 k, .string ⟨#[]⟩, .slice (some ⟨L, 0, none⟩) 2 2, .int .i64 0, .int .i64 0]] w fun e w' => e = .returned (.int .i64 E) ∧ Below w.heap.size w w' := check_is (two k L a b) w h hbd hE
theorem check_solo {a : Nd} {k : Int} {L : Nat} {w : World} (h : (solo k L a).ok w []) (hbd : Bd ((solo k L a).fo .nil)) {E : Int} (hE : Hid (checkE k ⟨#[]⟩ (a.fo .nil) 0 0 = E)) : Calls Tryd.prog 11 #[.agg #[.int .i64 k, .string ⟨#[]⟩, .slice (some ⟨L, 0, none⟩) 1 1, .int .i64 0, .int .i64 0]] w fun e w' => e = .returned (.int .i64 E) ∧ Below w.heap.size w w' := check_is (solo k L a) w h hbd hE
theorem text_two {a b : Nd} {k : Int} {L : Nat} {w : World} (h : (two k L a b).ok w []) (hbd : Bd ((two k L a b).fo .nil)) {S : ByteArray} (hE : Hid (⟨(textT k ⟨#[]⟩ (a.fo (b.fo .nil)) 0 0).toArray⟩ = S)) : Calls Tryd.prog 12 #[.agg #[.int .i64 k, .string ⟨#[]⟩, .slice (some ⟨L, 0, none⟩) 2 2, .int .i64 0, .int .i64 0]] w fun e w' => e = .returned (.string S) ∧ Below w.heap.size w w' := text_has (two k L a b) w h hbd hE
theorem text_solo {a : Nd} {k : Int} {L : Nat} {w : World} (h : (solo k L a).ok w []) (hbd : Bd ((solo k L a).fo .nil)) {S : ByteArray} (hE : Hid (⟨(textT k ⟨#[]⟩ (a.fo .nil) 0 0).toArray⟩ = S)) : Calls Tryd.prog 12 #[.agg #[.int .i64 k, .string ⟨#[]⟩, .slice (some ⟨L, 0, none⟩) 1 1, .int .i64 0, .int .i64 0]] w fun e w' => e = .returned (.string S) ∧ Below w.heap.size w w' := text_has (solo k L a) w h hbd hE
set_option linter.unusedSimpArgs false in
set_option maxRecDepth 100000 in
set_option maxHeartbeats 16000000 in
theorem binds_no (a b : Nd) (k : Int) (w : World) (hG : ErG w) (ha : a.ok w []) (hb : b.ok w []) (hda : Bd (a.fo .nil)) (hdb : Bd (b.fo .nil)) (hla : Lb (a.fo .nil)) (hlb : Lb (b.fo .nil)) (E : Int) (hE : (E != 0) = true) (hca : Hid (checkE a.k a.l a.kids a.mn a.mx = E)) :
    Calls Tryd.prog 4 #[a.v, b.v, .int .i64 k] w fun e w' => e = .returned (.bool true) ∧ Below w.heap.size w w' := by
  have h2 := boxed2 ha hb
  have Fa := Lib.hid h2.1
  have Fb := Lib.hid h2.2.1
  have BB := Lib.hid h2.2.2
  have LL := Lib.hid (hG.below h2.2.2)
  have hL0 := Lib.hid hG
  have DA := Lib.hid hda
  have DB := Lib.hid hdb
  have LA := Lib.hid hla
  have LB := Lib.hid hlb
  clear h2
  clear hG ha hb hda hdb hla hlb
  obtain ⟨a0, a1, a2, a3, a4, _⟩ := Fa.out
  obtain ⟨b0, b1, b2, b3, b4, _⟩ := Fb.out
  unfold Nd.v
  go_enter Tryd.func4, Tryd.ntmps4
  go_wp2_with (go_at_call 10; (with_reducible refine (small_any a [] _ Fa.out.ok LA.out).mono ?_); rintro e w1 ⟨⟨B1, rfl⟩, hbw1⟩; have Fa := Lib.hid (Fa.out.below hbw1); have Fb := Lib.hid (Fb.out.below hbw1); have BB := Lib.hid (below_go BB.out hbw1); have LL := Lib.hid (hL0.out.below BB.out); clear hbw1; obtain ⟨a0, a1, a2, a3, a4, _⟩ := Fa.out; obtain ⟨b0, b1, b2, b3, b4, _⟩ := Fb.out; refine Hid.out ?_)
  cases B1
  · refine Lib.hid ?_
    go_wp2_with (go_at_call 8; (with_reducible refine (awake_any _ LL.out).mono ?_); rintro e wz ⟨rfl, hbz⟩)
    go_ret
    exact ⟨rfl, below_go BB.out hbz⟩
  refine Lib.hid ?_
  go_wp2_with (go_at_call 10; (with_reducible refine (small_any b [] _ Fb.out.ok LB.out).mono ?_); rintro e w2 ⟨⟨B2, rfl⟩, hbw2⟩; have Fa := Lib.hid (Fa.out.below hbw2); have Fb := Lib.hid (Fb.out.below hbw2); have BB := Lib.hid (below_go BB.out hbw2); have LL := Lib.hid (hL0.out.below BB.out); clear hbw2; obtain ⟨a0, a1, a2, a3, a4, _⟩ := Fa.out; obtain ⟨b0, b1, b2, b3, b4, _⟩ := Fb.out; refine Hid.out ?_)
  cases B2
  · refine Lib.hid ?_
    go_wp2_with (go_at_call 8; (with_reducible refine (awake_any _ LL.out).mono ?_); rintro e wz ⟨rfl, hbz⟩)
    go_ret
    exact ⟨rfl, below_go BB.out hbz⟩
  refine Lib.hid ?_
  go_wp2_with (first
    | (go_at_call 11; (with_reducible refine (check_is a _ Fa.out.ok DA.out hca).mono ?_); rintro e w3 ⟨rfl, hbw3⟩; have Fa := Lib.hid (Fa.out.below hbw3); have Fb := Lib.hid (Fb.out.below hbw3); have BB := Lib.hid (below_go BB.out hbw3); have LL := Lib.hid (hL0.out.below BB.out); clear hbw3; obtain ⟨a0, a1, a2, a3, a4, _⟩ := Fa.out; obtain ⟨b0, b1, b2, b3, b4, _⟩ := Fb.out)
    | (go_at_call 8; (with_reducible refine (awake_any _ LL.out).mono ?_); rintro e wz ⟨rfl, hbz⟩))
  go_ret
  exact ⟨rfl, below_go BB.out hbz⟩
set_option linter.unusedSimpArgs false in
set_option maxRecDepth 100000 in
set_option maxHeartbeats 16000000 in
theorem binds_bad (a b : Nd) (k : Int) (w : World) (hG : ErG w) (ha : a.ok w []) (hb : b.ok w []) (hda : Bd (a.fo .nil)) (hdb : Bd (b.fo .nil)) (hla : Lb (a.fo .nil)) (hlb : Lb (b.fo .nil)) (hca : Hid (checkE a.k a.l a.kids a.mn a.mx = 0)) (E : Int) (hE : (E != 0) = true) (hcb : Hid (checkE b.k b.l b.kids b.mn b.mx = E)) :
    Calls Tryd.prog 4 #[a.v, b.v, .int .i64 k] w fun e w' => e = .returned (.bool true) ∧ Below w.heap.size w w' := by
  have h2 := boxed2 ha hb
  have Fa := Lib.hid h2.1
  have Fb := Lib.hid h2.2.1
  have BB := Lib.hid h2.2.2
  have LL := Lib.hid (hG.below h2.2.2)
  have hL0 := Lib.hid hG
  have DA := Lib.hid hda
  have DB := Lib.hid hdb
  have LA := Lib.hid hla
  have LB := Lib.hid hlb
  clear h2
  clear hG ha hb hda hdb hla hlb
  obtain ⟨a0, a1, a2, a3, a4, _⟩ := Fa.out
  obtain ⟨b0, b1, b2, b3, b4, _⟩ := Fb.out
  unfold Nd.v
  go_enter Tryd.func4, Tryd.ntmps4
  go_wp2_with (go_at_call 10; (with_reducible refine (small_any a [] _ Fa.out.ok LA.out).mono ?_); rintro e w1 ⟨⟨B1, rfl⟩, hbw1⟩; have Fa := Lib.hid (Fa.out.below hbw1); have Fb := Lib.hid (Fb.out.below hbw1); have BB := Lib.hid (below_go BB.out hbw1); have LL := Lib.hid (hL0.out.below BB.out); clear hbw1; obtain ⟨a0, a1, a2, a3, a4, _⟩ := Fa.out; obtain ⟨b0, b1, b2, b3, b4, _⟩ := Fb.out; refine Hid.out ?_)
  cases B1
  · refine Lib.hid ?_
    go_wp2_with (go_at_call 8; (with_reducible refine (awake_any _ LL.out).mono ?_); rintro e wz ⟨rfl, hbz⟩)
    go_ret
    exact ⟨rfl, below_go BB.out hbz⟩
  refine Lib.hid ?_
  go_wp2_with (go_at_call 10; (with_reducible refine (small_any b [] _ Fb.out.ok LB.out).mono ?_); rintro e w2 ⟨⟨B2, rfl⟩, hbw2⟩; have Fa := Lib.hid (Fa.out.below hbw2); have Fb := Lib.hid (Fb.out.below hbw2); have BB := Lib.hid (below_go BB.out hbw2); have LL := Lib.hid (hL0.out.below BB.out); clear hbw2; obtain ⟨a0, a1, a2, a3, a4, _⟩ := Fa.out; obtain ⟨b0, b1, b2, b3, b4, _⟩ := Fb.out; refine Hid.out ?_)
  cases B2
  · refine Lib.hid ?_
    go_wp2_with (go_at_call 8; (with_reducible refine (awake_any _ LL.out).mono ?_); rintro e wz ⟨rfl, hbz⟩)
    go_ret
    exact ⟨rfl, below_go BB.out hbz⟩
  refine Lib.hid ?_
  go_wp2_with (first
    | (go_at_call 11; (with_reducible refine (check_is a _ Fa.out.ok DA.out hca).mono ?_); rintro e w3 ⟨rfl, hbw3⟩; have Fa := Lib.hid (Fa.out.below hbw3); have Fb := Lib.hid (Fb.out.below hbw3); have BB := Lib.hid (below_go BB.out hbw3); have LL := Lib.hid (hL0.out.below BB.out); clear hbw3; obtain ⟨a0, a1, a2, a3, a4, _⟩ := Fa.out; obtain ⟨b0, b1, b2, b3, b4, _⟩ := Fb.out)
    | (go_at_call 11; (with_reducible refine (check_is b _ Fb.out.ok DB.out hcb).mono ?_); rintro e w4 ⟨rfl, hbw4⟩; have Fa := Lib.hid (Fa.out.below hbw4); have Fb := Lib.hid (Fb.out.below hbw4); have BB := Lib.hid (below_go BB.out hbw4); have LL := Lib.hid (hL0.out.below BB.out); clear hbw4; obtain ⟨a0, a1, a2, a3, a4, _⟩ := Fa.out; obtain ⟨b0, b1, b2, b3, b4, _⟩ := Fb.out)
    | (go_at_call 8; (with_reducible refine (awake_any _ LL.out).mono ?_); rintro e wz ⟨rfl, hbz⟩))
  go_ret
  exact ⟨rfl, below_go BB.out hbz⟩
set_option linter.unusedSimpArgs false in
set_option maxRecDepth 100000 in
set_option maxHeartbeats 16000000 in
theorem binds_0n (a b : Nd) (k : Int) (w : World) (hG : ErG w) (ha : a.ok w []) (hb : b.ok w []) (hda : Bd (a.fo .nil)) (hdb : Bd (b.fo .nil)) (hla : Lb (a.fo .nil)) (hlb : Lb (b.fo .nil)) (hca : Hid (checkE a.k a.l a.kids a.mn a.mx = 0)) (hcb : Hid (checkE b.k b.l b.kids b.mn b.mx = 0)) (hk : Hid (rnd3 k = 0)) (E : Int) (hE : (E != 0) = true) (hc : Hid (checkE 5 ⟨#[]⟩ (a.fo (b.fo .nil)) 0 0 = E)) :
    Calls Tryd.prog 4 #[a.v, b.v, .int .i64 k] w fun e w' => e = .returned (.bool true) ∧ Below w.heap.size w w' := by
  obtain ⟨T, hT⟩ : ∃ T, textT a.k a.l a.kids a.mn a.mx = T := ⟨_, rfl⟩
  have HT := Lib.hid hT
  obtain ⟨T2, hT2⟩ : ∃ T2, textT b.k b.l b.kids b.mn b.mx = T2 := ⟨_, rfl⟩
  have HT2 := Lib.hid hT2
  have hl1 : T.length < 3840 := by rw [← hT, txN_0 _ _ _ _ _ hca.out]; exact (text_len hca.out).1
  have hl2 : T2.length < 3840 := by rw [← hT2, txN_0 _ _ _ _ _ hcb.out]; exact (text_len hcb.out).1
  have HP := Lib.hid (show (⟨(textT 5 ⟨#[]⟩ (a.fo (b.fo .nil)) 0 0).toArray⟩ : ByteArray) = ⟨#[]⟩ by rw [show textT 5 ⟨#[]⟩ (a.fo (b.fo .nil)) 0 0 = [] from textT_ne.2 (by rw [hc.out]; simpa using hE)])
  clear hT2 hT
  have h2 := boxed2 ha hb
  have Fa := Lib.hid h2.1
  have Fb := Lib.hid h2.2.1
  have BB := Lib.hid h2.2.2
  have LL := Lib.hid (hG.below h2.2.2)
  have hL0 := Lib.hid hG
  have DA := Lib.hid hda
  have DB := Lib.hid hdb
  have LA := Lib.hid hla
  have LB := Lib.hid hlb
  clear h2
  clear hG ha hb hda hdb hla hlb
  obtain ⟨a0, a1, a2, a3, a4, _⟩ := Fa.out
  obtain ⟨b0, b1, b2, b3, b4, _⟩ := Fb.out
  unfold Nd.v
  go_enter Tryd.func4, Tryd.ntmps4
  go_wp2_with (go_at_call 10; (with_reducible refine (small_any a [] _ Fa.out.ok LA.out).mono ?_); rintro e w1 ⟨⟨B1, rfl⟩, hbw1⟩; have Fa := Lib.hid (Fa.out.below hbw1); have Fb := Lib.hid (Fb.out.below hbw1); have BB := Lib.hid (below_go BB.out hbw1); have LL := Lib.hid (hL0.out.below BB.out); clear hbw1; obtain ⟨a0, a1, a2, a3, a4, _⟩ := Fa.out; obtain ⟨b0, b1, b2, b3, b4, _⟩ := Fb.out; refine Hid.out ?_)
  cases B1
  · refine Lib.hid ?_
    go_wp2_with (go_at_call 8; (with_reducible refine (awake_any _ LL.out).mono ?_); rintro e wz ⟨rfl, hbz⟩)
    go_ret
    exact ⟨rfl, below_go BB.out hbz⟩
  refine Lib.hid ?_
  go_wp2_with (go_at_call 10; (with_reducible refine (small_any b [] _ Fb.out.ok LB.out).mono ?_); rintro e w2 ⟨⟨B2, rfl⟩, hbw2⟩; have Fa := Lib.hid (Fa.out.below hbw2); have Fb := Lib.hid (Fb.out.below hbw2); have BB := Lib.hid (below_go BB.out hbw2); have LL := Lib.hid (hL0.out.below BB.out); clear hbw2; obtain ⟨a0, a1, a2, a3, a4, _⟩ := Fa.out; obtain ⟨b0, b1, b2, b3, b4, _⟩ := Fb.out; refine Hid.out ?_)
  cases B2
  · refine Lib.hid ?_
    go_wp2_with (go_at_call 8; (with_reducible refine (awake_any _ LL.out).mono ?_); rintro e wz ⟨rfl, hbz⟩)
    go_ret
    exact ⟨rfl, below_go BB.out hbz⟩
  refine Lib.hid ?_
  go_wp2_with (first
    | (go_at_call 11; (with_reducible refine (check_is a _ Fa.out.ok DA.out hca).mono ?_); rintro e w3 ⟨rfl, hbw3⟩; have Fa := Lib.hid (Fa.out.below hbw3); have Fb := Lib.hid (Fb.out.below hbw3); have BB := Lib.hid (below_go BB.out hbw3); have LL := Lib.hid (hL0.out.below BB.out); clear hbw3; obtain ⟨a0, a1, a2, a3, a4, _⟩ := Fa.out; obtain ⟨b0, b1, b2, b3, b4, _⟩ := Fb.out)
    | (go_at_call 11; (with_reducible refine (check_is b _ Fb.out.ok DB.out hcb).mono ?_); rintro e w4 ⟨rfl, hbw4⟩; have Fa := Lib.hid (Fa.out.below hbw4); have Fb := Lib.hid (Fb.out.below hbw4); have BB := Lib.hid (below_go BB.out hbw4); have LL := Lib.hid (hL0.out.below BB.out); clear hbw4; obtain ⟨a0, a1, a2, a3, a4, _⟩ := Fa.out; obtain ⟨b0, b1, b2, b3, b4, _⟩ := Fb.out)
    | (go_at_call 12; (with_reducible refine (text_is a _ Fa.out.ok DA.out HT).mono ?_); rintro e w5 ⟨rfl, hbw5⟩; have Fa := Lib.hid (Fa.out.below hbw5); have Fb := Lib.hid (Fb.out.below hbw5); have BB := Lib.hid (below_go BB.out hbw5); have LL := Lib.hid (hL0.out.below BB.out); clear hbw5; obtain ⟨a0, a1, a2, a3, a4, _⟩ := Fa.out; obtain ⟨b0, b1, b2, b3, b4, _⟩ := Fb.out)
    | (go_at_call 12; (with_reducible refine (text_is b _ Fb.out.ok DB.out HT2).mono ?_); rintro e w6 ⟨rfl, hbw6⟩; have Fa := Lib.hid (Fa.out.below hbw6); have Fb := Lib.hid (Fb.out.below hbw6); have BB := Lib.hid (below_go BB.out hbw6); have LL := Lib.hid (hL0.out.below BB.out); clear hbw6; obtain ⟨a0, a1, a2, a3, a4, _⟩ := Fa.out; obtain ⟨b0, b1, b2, b3, b4, _⟩ := Fb.out)
    | (go_at_call 14; (with_reducible refine (round_any k _).mono ?_); rintro e w7 ⟨rfl, rfl⟩; rw [hk.out]; have Fc := Lib.hid (Fa.out.al (cells5 0 ⟨#[]⟩ none 0 0 0 0)); have Fd := Lib.hid (Fb.out.al (cells5 0 ⟨#[]⟩ none 0 0 0 0)); obtain ⟨a0, a1, a2, a3, a4, _⟩ := Fc.out; obtain ⟨b0, b1, b2, b3, b4, _⟩ := Fd.out)
    | (go_at_call 11; have FP := Lib.hid (two_pv 5 w6 Fa.out.ok Fb.out.ok); (with_reducible refine (check_two FP.out.ok (bd_two DA.out DB.out _ _) hc).mono ?_); rintro e w8 ⟨rfl, hbw8⟩; have BB := Lib.hid (below_go BB.out (((Below.refl w6.heap.size w6).alloc (Nat.le_refl _) (cells5 5 ⟨#[]⟩ (some ⟨w6.heap.size + 1, 0, none⟩) 2 2 0 0)).alloc (by simp) (ten a b))); have FP := Lib.hid (FP.out.below hbw8); have BB := Lib.hid (below_go BB.out hbw8); have LL := Lib.hid (hL0.out.below BB.out); clear hbw8; obtain ⟨p0, p1, p2, p3, p4⟩ := two_cells FP.out)
    | (go_at_call 12; (with_reducible refine (text_two FP.out.ok (bd_two DA.out DB.out _ _) HP).mono ?_); rintro e wb ⟨rfl, hbwb⟩; have FP := Lib.hid (FP.out.below hbwb); have BB := Lib.hid (below_go BB.out hbwb); have LL := Lib.hid (hL0.out.below BB.out); clear hbwb; obtain ⟨p0, p1, p2, p3, p4⟩ := two_cells FP.out)
    | (go_at_call 8; (with_reducible refine (awake_any _ LL.out).mono ?_); rintro e wz ⟨rfl, hbz⟩))
  go_ret
  exact ⟨rfl, below_go BB.out hbz⟩
set_option linter.unusedSimpArgs false in
set_option maxRecDepth 100000 in
set_option maxHeartbeats 16000000 in
theorem binds_0y (a b : Nd) (k : Int) (w : World) (hG : ErG w) (ha : a.ok w []) (hb : b.ok w []) (hda : Bd (a.fo .nil)) (hdb : Bd (b.fo .nil)) (hla : Lb (a.fo .nil)) (hlb : Lb (b.fo .nil)) (hca : Hid (checkE a.k a.l a.kids a.mn a.mx = 0)) (hcb : Hid (checkE b.k b.l b.kids b.mn b.mx = 0)) (hk : Hid (rnd3 k = 0)) (hc : Hid (checkE 5 ⟨#[]⟩ (a.fo (b.fo .nil)) 0 0 = 0)) :
    Calls Tryd.prog 4 #[a.v, b.v, .int .i64 k] w fun e w' => e = .returned (.bool true) ∧ Below w.heap.size w w' := by
  obtain ⟨T, hT⟩ : ∃ T, textT a.k a.l a.kids a.mn a.mx = T := ⟨_, rfl⟩
  have HT := Lib.hid hT
  obtain ⟨T2, hT2⟩ : ∃ T2, textT b.k b.l b.kids b.mn b.mx = T2 := ⟨_, rfl⟩
  have HT2 := Lib.hid hT2
  have hl1 : T.length < 3840 := by rw [← hT, txN_0 _ _ _ _ _ hca.out]; exact (text_len hca.out).1
  have hl2 : T2.length < 3840 := by rw [← hT2, txN_0 _ _ _ _ _ hcb.out]; exact (text_len hcb.out).1
  have HP := Lib.hid (show (⟨(textT 5 ⟨#[]⟩ (a.fo (b.fo .nil)) 0 0).toArray⟩ : ByteArray) = (⟨T.toArray⟩ ++ ⟨#[124]⟩ ++ ⟨T2.toArray⟩ : ByteArray) by rw [bind_0 hca.out hcb.out hc.out, hT, hT2]; apply ByteArray.ext; simp)
  clear hT2 hT
  have h2 := boxed2 ha hb
  have Fa := Lib.hid h2.1
  have Fb := Lib.hid h2.2.1
  have BB := Lib.hid h2.2.2
  have LL := Lib.hid (hG.below h2.2.2)
  have hL0 := Lib.hid hG
  have DA := Lib.hid hda
  have DB := Lib.hid hdb
  have LA := Lib.hid hla
  have LB := Lib.hid hlb
  clear h2
  clear hG ha hb hda hdb hla hlb
  obtain ⟨a0, a1, a2, a3, a4, _⟩ := Fa.out
  obtain ⟨b0, b1, b2, b3, b4, _⟩ := Fb.out
  unfold Nd.v
  go_enter Tryd.func4, Tryd.ntmps4
  go_wp2_with (go_at_call 10; (with_reducible refine (small_any a [] _ Fa.out.ok LA.out).mono ?_); rintro e w1 ⟨⟨B1, rfl⟩, hbw1⟩; have Fa := Lib.hid (Fa.out.below hbw1); have Fb := Lib.hid (Fb.out.below hbw1); have BB := Lib.hid (below_go BB.out hbw1); have LL := Lib.hid (hL0.out.below BB.out); clear hbw1; obtain ⟨a0, a1, a2, a3, a4, _⟩ := Fa.out; obtain ⟨b0, b1, b2, b3, b4, _⟩ := Fb.out; refine Hid.out ?_)
  cases B1
  · refine Lib.hid ?_
    go_wp2_with (go_at_call 8; (with_reducible refine (awake_any _ LL.out).mono ?_); rintro e wz ⟨rfl, hbz⟩)
    go_ret
    exact ⟨rfl, below_go BB.out hbz⟩
  refine Lib.hid ?_
  go_wp2_with (go_at_call 10; (with_reducible refine (small_any b [] _ Fb.out.ok LB.out).mono ?_); rintro e w2 ⟨⟨B2, rfl⟩, hbw2⟩; have Fa := Lib.hid (Fa.out.below hbw2); have Fb := Lib.hid (Fb.out.below hbw2); have BB := Lib.hid (below_go BB.out hbw2); have LL := Lib.hid (hL0.out.below BB.out); clear hbw2; obtain ⟨a0, a1, a2, a3, a4, _⟩ := Fa.out; obtain ⟨b0, b1, b2, b3, b4, _⟩ := Fb.out; refine Hid.out ?_)
  cases B2
  · refine Lib.hid ?_
    go_wp2_with (go_at_call 8; (with_reducible refine (awake_any _ LL.out).mono ?_); rintro e wz ⟨rfl, hbz⟩)
    go_ret
    exact ⟨rfl, below_go BB.out hbz⟩
  refine Lib.hid ?_
  go_wp2_with (first
    | (go_at_call 11; (with_reducible refine (check_is a _ Fa.out.ok DA.out hca).mono ?_); rintro e w3 ⟨rfl, hbw3⟩; have Fa := Lib.hid (Fa.out.below hbw3); have Fb := Lib.hid (Fb.out.below hbw3); have BB := Lib.hid (below_go BB.out hbw3); have LL := Lib.hid (hL0.out.below BB.out); clear hbw3; obtain ⟨a0, a1, a2, a3, a4, _⟩ := Fa.out; obtain ⟨b0, b1, b2, b3, b4, _⟩ := Fb.out)
    | (go_at_call 11; (with_reducible refine (check_is b _ Fb.out.ok DB.out hcb).mono ?_); rintro e w4 ⟨rfl, hbw4⟩; have Fa := Lib.hid (Fa.out.below hbw4); have Fb := Lib.hid (Fb.out.below hbw4); have BB := Lib.hid (below_go BB.out hbw4); have LL := Lib.hid (hL0.out.below BB.out); clear hbw4; obtain ⟨a0, a1, a2, a3, a4, _⟩ := Fa.out; obtain ⟨b0, b1, b2, b3, b4, _⟩ := Fb.out)
    | (go_at_call 12; (with_reducible refine (text_is a _ Fa.out.ok DA.out HT).mono ?_); rintro e w5 ⟨rfl, hbw5⟩; have Fa := Lib.hid (Fa.out.below hbw5); have Fb := Lib.hid (Fb.out.below hbw5); have BB := Lib.hid (below_go BB.out hbw5); have LL := Lib.hid (hL0.out.below BB.out); clear hbw5; obtain ⟨a0, a1, a2, a3, a4, _⟩ := Fa.out; obtain ⟨b0, b1, b2, b3, b4, _⟩ := Fb.out)
    | (go_at_call 12; (with_reducible refine (text_is b _ Fb.out.ok DB.out HT2).mono ?_); rintro e w6 ⟨rfl, hbw6⟩; have Fa := Lib.hid (Fa.out.below hbw6); have Fb := Lib.hid (Fb.out.below hbw6); have BB := Lib.hid (below_go BB.out hbw6); have LL := Lib.hid (hL0.out.below BB.out); clear hbw6; obtain ⟨a0, a1, a2, a3, a4, _⟩ := Fa.out; obtain ⟨b0, b1, b2, b3, b4, _⟩ := Fb.out)
    | (go_at_call 14; (with_reducible refine (round_any k _).mono ?_); rintro e w7 ⟨rfl, rfl⟩; rw [hk.out]; have Fc := Lib.hid (Fa.out.al (cells5 0 ⟨#[]⟩ none 0 0 0 0)); have Fd := Lib.hid (Fb.out.al (cells5 0 ⟨#[]⟩ none 0 0 0 0)); obtain ⟨a0, a1, a2, a3, a4, _⟩ := Fc.out; obtain ⟨b0, b1, b2, b3, b4, _⟩ := Fd.out)
    | (go_at_call 11; have FP := Lib.hid (two_pv 5 w6 Fa.out.ok Fb.out.ok); (with_reducible refine (check_two FP.out.ok (bd_two DA.out DB.out _ _) hc).mono ?_); rintro e w8 ⟨rfl, hbw8⟩; have BB := Lib.hid (below_go BB.out (((Below.refl w6.heap.size w6).alloc (Nat.le_refl _) (cells5 5 ⟨#[]⟩ (some ⟨w6.heap.size + 1, 0, none⟩) 2 2 0 0)).alloc (by simp) (ten a b))); have FP := Lib.hid (FP.out.below hbw8); have BB := Lib.hid (below_go BB.out hbw8); have LL := Lib.hid (hL0.out.below BB.out); clear hbw8; obtain ⟨p0, p1, p2, p3, p4⟩ := two_cells FP.out)
    | (go_at_call 12; (with_reducible refine (text_two FP.out.ok (bd_two DA.out DB.out _ _) HP).mono ?_); rintro e wb ⟨rfl, hbwb⟩; have FP := Lib.hid (FP.out.below hbwb); have BB := Lib.hid (below_go BB.out hbwb); have LL := Lib.hid (hL0.out.below BB.out); clear hbwb; obtain ⟨p0, p1, p2, p3, p4⟩ := two_cells FP.out)
    | (go_at_call 8; (with_reducible refine (awake_any _ LL.out).mono ?_); rintro e wz ⟨rfl, hbz⟩))
  go_ret
  exact ⟨rfl, below_go BB.out hbz⟩
set_option linter.unusedSimpArgs false in
set_option maxRecDepth 100000 in
set_option maxHeartbeats 16000000 in
theorem binds_1n (a b : Nd) (k : Int) (w : World) (hG : ErG w) (ha : a.ok w []) (hb : b.ok w []) (hda : Bd (a.fo .nil)) (hdb : Bd (b.fo .nil)) (hla : Lb (a.fo .nil)) (hlb : Lb (b.fo .nil)) (hca : Hid (checkE a.k a.l a.kids a.mn a.mx = 0)) (hcb : Hid (checkE b.k b.l b.kids b.mn b.mx = 0)) (hk : Hid (rnd3 k = 1)) (E : Int) (hE : (E != 0) = true) (hc : Hid (checkE 4 ⟨#[]⟩ (a.fo (b.fo .nil)) 0 0 = E)) :
    Calls Tryd.prog 4 #[a.v, b.v, .int .i64 k] w fun e w' => e = .returned (.bool true) ∧ Below w.heap.size w w' := by
  obtain ⟨T, hT⟩ : ∃ T, textT a.k a.l a.kids a.mn a.mx = T := ⟨_, rfl⟩
  have HT := Lib.hid hT
  obtain ⟨T2, hT2⟩ : ∃ T2, textT b.k b.l b.kids b.mn b.mx = T2 := ⟨_, rfl⟩
  have HT2 := Lib.hid hT2
  have hl1 : T.length < 3840 := by rw [← hT, txN_0 _ _ _ _ _ hca.out]; exact (text_len hca.out).1
  have hl2 : T2.length < 3840 := by rw [← hT2, txN_0 _ _ _ _ _ hcb.out]; exact (text_len hcb.out).1
  have HP := Lib.hid (show (⟨(textT 4 ⟨#[]⟩ (a.fo (b.fo .nil)) 0 0).toArray⟩ : ByteArray) = ⟨#[]⟩ by rw [show textT 4 ⟨#[]⟩ (a.fo (b.fo .nil)) 0 0 = [] from textT_ne.2 (by rw [hc.out]; simpa using hE)])
  have hl3 : (wrT a.k true T).length ≤ 4000 := by unfold wrT; split <;> (try simp) <;> omega
  have hl4 : (wrT b.k true T2).length ≤ 4000 := by unfold wrT; split <;> (try simp) <;> omega
  have hs1 : ¬ 9223372036854775807 < (wrT a.k true T).length + 1 := by omega
  have hs2 : ¬ 9223372036854775807 < (wrT a.k true T).length + 1 + (wrT b.k true T2).length := by omega
  clear hT2 hT
  have h2 := boxed2 ha hb
  have Fa := Lib.hid h2.1
  have Fb := Lib.hid h2.2.1
  have BB := Lib.hid h2.2.2
  have LL := Lib.hid (hG.below h2.2.2)
  have hL0 := Lib.hid hG
  have DA := Lib.hid hda
  have DB := Lib.hid hdb
  have LA := Lib.hid hla
  have LB := Lib.hid hlb
  clear h2
  clear hG ha hb hda hdb hla hlb
  obtain ⟨a0, a1, a2, a3, a4, _⟩ := Fa.out
  obtain ⟨b0, b1, b2, b3, b4, _⟩ := Fb.out
  unfold Nd.v
  go_enter Tryd.func4, Tryd.ntmps4
  go_wp2_with (go_at_call 10; (with_reducible refine (small_any a [] _ Fa.out.ok LA.out).mono ?_); rintro e w1 ⟨⟨B1, rfl⟩, hbw1⟩; have Fa := Lib.hid (Fa.out.below hbw1); have Fb := Lib.hid (Fb.out.below hbw1); have BB := Lib.hid (below_go BB.out hbw1); have LL := Lib.hid (hL0.out.below BB.out); clear hbw1; obtain ⟨a0, a1, a2, a3, a4, _⟩ := Fa.out; obtain ⟨b0, b1, b2, b3, b4, _⟩ := Fb.out; refine Hid.out ?_)
  cases B1
  · refine Lib.hid ?_
    go_wp2_with (go_at_call 8; (with_reducible refine (awake_any _ LL.out).mono ?_); rintro e wz ⟨rfl, hbz⟩)
    go_ret
    exact ⟨rfl, below_go BB.out hbz⟩
  refine Lib.hid ?_
  go_wp2_with (go_at_call 10; (with_reducible refine (small_any b [] _ Fb.out.ok LB.out).mono ?_); rintro e w2 ⟨⟨B2, rfl⟩, hbw2⟩; have Fa := Lib.hid (Fa.out.below hbw2); have Fb := Lib.hid (Fb.out.below hbw2); have BB := Lib.hid (below_go BB.out hbw2); have LL := Lib.hid (hL0.out.below BB.out); clear hbw2; obtain ⟨a0, a1, a2, a3, a4, _⟩ := Fa.out; obtain ⟨b0, b1, b2, b3, b4, _⟩ := Fb.out; refine Hid.out ?_)
  cases B2
  · refine Lib.hid ?_
    go_wp2_with (go_at_call 8; (with_reducible refine (awake_any _ LL.out).mono ?_); rintro e wz ⟨rfl, hbz⟩)
    go_ret
    exact ⟨rfl, below_go BB.out hbz⟩
  refine Lib.hid ?_
  go_wp2_with (first
    | (go_at_call 11; (with_reducible refine (check_is a _ Fa.out.ok DA.out hca).mono ?_); rintro e w3 ⟨rfl, hbw3⟩; have Fa := Lib.hid (Fa.out.below hbw3); have Fb := Lib.hid (Fb.out.below hbw3); have BB := Lib.hid (below_go BB.out hbw3); have LL := Lib.hid (hL0.out.below BB.out); clear hbw3; obtain ⟨a0, a1, a2, a3, a4, _⟩ := Fa.out; obtain ⟨b0, b1, b2, b3, b4, _⟩ := Fb.out)
    | (go_at_call 11; (with_reducible refine (check_is b _ Fb.out.ok DB.out hcb).mono ?_); rintro e w4 ⟨rfl, hbw4⟩; have Fa := Lib.hid (Fa.out.below hbw4); have Fb := Lib.hid (Fb.out.below hbw4); have BB := Lib.hid (below_go BB.out hbw4); have LL := Lib.hid (hL0.out.below BB.out); clear hbw4; obtain ⟨a0, a1, a2, a3, a4, _⟩ := Fa.out; obtain ⟨b0, b1, b2, b3, b4, _⟩ := Fb.out)
    | (go_at_call 12; (with_reducible refine (text_is a _ Fa.out.ok DA.out HT).mono ?_); rintro e w5 ⟨rfl, hbw5⟩; have Fa := Lib.hid (Fa.out.below hbw5); have Fb := Lib.hid (Fb.out.below hbw5); have BB := Lib.hid (below_go BB.out hbw5); have LL := Lib.hid (hL0.out.below BB.out); clear hbw5; obtain ⟨a0, a1, a2, a3, a4, _⟩ := Fa.out; obtain ⟨b0, b1, b2, b3, b4, _⟩ := Fb.out)
    | (go_at_call 12; (with_reducible refine (text_is b _ Fb.out.ok DB.out HT2).mono ?_); rintro e w6 ⟨rfl, hbw6⟩; have Fa := Lib.hid (Fa.out.below hbw6); have Fb := Lib.hid (Fb.out.below hbw6); have BB := Lib.hid (below_go BB.out hbw6); have LL := Lib.hid (hL0.out.below BB.out); clear hbw6; obtain ⟨a0, a1, a2, a3, a4, _⟩ := Fa.out; obtain ⟨b0, b1, b2, b3, b4, _⟩ := Fb.out)
    | (go_at_call 14; (with_reducible refine (round_any k _).mono ?_); rintro e w7 ⟨rfl, rfl⟩; rw [hk.out]; have Fc := Lib.hid (Fa.out.al (cells5 0 ⟨#[]⟩ none 0 0 0 0)); have Fd := Lib.hid (Fb.out.al (cells5 0 ⟨#[]⟩ none 0 0 0 0)); obtain ⟨a0, a1, a2, a3, a4, _⟩ := Fc.out; obtain ⟨b0, b1, b2, b3, b4, _⟩ := Fd.out))
  have FP := Lib.hid (two_pv 4 w6 Fa.out.ok Fb.out.ok)
  have BB := Lib.hid (below_go BB.out (((Below.refl w6.heap.size w6).alloc (Nat.le_refl _) (cells5 4 ⟨#[]⟩ (some ⟨w6.heap.size + 1, 0, none⟩) 2 2 0 0)).alloc (by simp) (ten a b)))
  have Fa := Lib.hid (((Fa.out.al (cells5 4 ⟨#[]⟩ (some ⟨w6.heap.size + 1, 0, none⟩) 2 2 0 0)).al (ten a b)))
  have Fb := Lib.hid (((Fb.out.al (cells5 4 ⟨#[]⟩ (some ⟨w6.heap.size + 1, 0, none⟩) 2 2 0 0)).al (ten a b)))
  have HS := Lib.hid (fun (w' : World) (h : Below ((w6.alloc (cells5 4 ⟨#[]⟩ (some ⟨w6.heap.size + 1, 0, none⟩) 2 2 0 0)).alloc (ten a b)).heap.size ((w6.alloc (cells5 4 ⟨#[]⟩ (some ⟨w6.heap.size + 1, 0, none⟩) 2 2 0 0)).alloc (ten a b)) w') => (⟨(Fa.out.below h).1, (Fa.out.below h).2.1, (Fa.out.below h).2.2.1, (Fa.out.below h).2.2.2.1, (Fa.out.below h).2.2.2.2.1, (Fb.out.below h).1, (Fb.out.below h).2.1, (Fb.out.below h).2.2.1, (Fb.out.below h).2.2.2.1, (Fb.out.below h).2.2.2.2.1⟩ : w'.cell? ⟨w.heap.size, 0, none⟩ = some (.int .i64 a.k) ∧ w'.cell? ⟨w.heap.size, 1, none⟩ = some (.string a.l) ∧ w'.cell? ⟨w.heap.size, 2, none⟩ = some (.slice a.A a.kids.len a.c) ∧ w'.cell? ⟨w.heap.size, 3, none⟩ = some (.int .i64 a.mn) ∧ w'.cell? ⟨w.heap.size, 4, none⟩ = some (.int .i64 a.mx) ∧ w'.cell? ⟨w.heap.size + 1, 0, none⟩ = some (.int .i64 b.k) ∧ w'.cell? ⟨w.heap.size + 1, 1, none⟩ = some (.string b.l) ∧ w'.cell? ⟨w.heap.size + 1, 2, none⟩ = some (.slice b.A b.kids.len b.c) ∧ w'.cell? ⟨w.heap.size + 1, 3, none⟩ = some (.int .i64 b.mn) ∧ w'.cell? ⟨w.heap.size + 1, 4, none⟩ = some (.int .i64 b.mx)))
  clear a0 a1 a2 a3 a4 b0 b1 b2 b3 b4
  have F1 := HS.out _ (Below.refl _ _)
  go_region_held3 (fun w' => w'.cell? ⟨w.heap.size, 0, none⟩ = some (.int .i64 a.k) ∧ w'.cell? ⟨w.heap.size, 1, none⟩ = some (.string a.l) ∧ w'.cell? ⟨w.heap.size, 2, none⟩ = some (.slice a.A a.kids.len a.c) ∧ w'.cell? ⟨w.heap.size, 3, none⟩ = some (.int .i64 a.mn) ∧ w'.cell? ⟨w.heap.size, 4, none⟩ = some (.int .i64 a.mx) ∧ w'.cell? ⟨w.heap.size + 1, 0, none⟩ = some (.int .i64 b.k) ∧ w'.cell? ⟨w.heap.size + 1, 1, none⟩ = some (.string b.l) ∧ w'.cell? ⟨w.heap.size + 1, 2, none⟩ = some (.slice b.A b.kids.len b.c) ∧ w'.cell? ⟨w.heap.size + 1, 3, none⟩ = some (.int .i64 b.mn) ∧ w'.cell? ⟨w.heap.size + 1, 4, none⟩ = some (.int .i64 b.mx)) (first | exact F1) (first | (go_at_call 13; (with_reducible refine (wrap_any a T true _ (by omega)).mono ?_); rintro e w8 ⟨rfl, hb8⟩; have HB8 := Lib.hid (below_go (Below.refl _ _).drew hb8); have F1 := HS.out _ HB8.out; clear hb8) | (go_at_call 13; (with_reducible refine (wrap_any b T2 true _ (by omega)).mono ?_); rintro e w9 ⟨rfl, hb9⟩; have HB8 := Lib.hid (below_go HB8.out hb9); have F1 := HS.out _ HB8.out; clear hb9))
  all_goals
    have BB := Lib.hid (below_go BB.out HB8.out)
    have LL := Lib.hid (hL0.out.below BB.out)
    have FP := Lib.hid (FP.out.below HB8.out)
    clear F1
    obtain ⟨p0, p1, p2, p3, p4⟩ := two_cells FP.out
  go_wp2_with (first
    | (go_at_call 11; (with_reducible refine (check_two FP.out.ok (bd_two DA.out DB.out _ _) hc).mono ?_); rintro e wa ⟨rfl, hbwa⟩; have FP := Lib.hid (FP.out.below hbwa); have BB := Lib.hid (below_go BB.out hbwa); have LL := Lib.hid (hL0.out.below BB.out); clear hbwa; obtain ⟨p0, p1, p2, p3, p4⟩ := two_cells FP.out)
    | (go_at_call 12; (with_reducible refine (text_two FP.out.ok (bd_two DA.out DB.out _ _) HP).mono ?_); rintro e wb ⟨rfl, hbwb⟩; have FP := Lib.hid (FP.out.below hbwb); have BB := Lib.hid (below_go BB.out hbwb); have LL := Lib.hid (hL0.out.below BB.out); clear hbwb; obtain ⟨p0, p1, p2, p3, p4⟩ := two_cells FP.out)
    | (go_at_call 8; (with_reducible refine (awake_any _ LL.out).mono ?_); rintro e wz ⟨rfl, hbz⟩))
  go_ret
  exact ⟨rfl, below_go BB.out hbz⟩
set_option linter.unusedSimpArgs false in
set_option maxRecDepth 100000 in
set_option maxHeartbeats 16000000 in
theorem binds_1y (a b : Nd) (k : Int) (w : World) (hG : ErG w) (ha : a.ok w []) (hb : b.ok w []) (hda : Bd (a.fo .nil)) (hdb : Bd (b.fo .nil)) (hla : Lb (a.fo .nil)) (hlb : Lb (b.fo .nil)) (hca : Hid (checkE a.k a.l a.kids a.mn a.mx = 0)) (hcb : Hid (checkE b.k b.l b.kids b.mn b.mx = 0)) (hk : Hid (rnd3 k = 1)) (hc : Hid (checkE 4 ⟨#[]⟩ (a.fo (b.fo .nil)) 0 0 = 0)) :
    Calls Tryd.prog 4 #[a.v, b.v, .int .i64 k] w fun e w' => e = .returned (.bool true) ∧ Below w.heap.size w w' := by
  obtain ⟨T, hT⟩ : ∃ T, textT a.k a.l a.kids a.mn a.mx = T := ⟨_, rfl⟩
  have HT := Lib.hid hT
  obtain ⟨T2, hT2⟩ : ∃ T2, textT b.k b.l b.kids b.mn b.mx = T2 := ⟨_, rfl⟩
  have HT2 := Lib.hid hT2
  have hl1 : T.length < 3840 := by rw [← hT, txN_0 _ _ _ _ _ hca.out]; exact (text_len hca.out).1
  have hl2 : T2.length < 3840 := by rw [← hT2, txN_0 _ _ _ _ _ hcb.out]; exact (text_len hcb.out).1
  have HP := Lib.hid (show (⟨(textT 4 ⟨#[]⟩ (a.fo (b.fo .nil)) 0 0).toArray⟩ : ByteArray) = (⟨(wrT a.k true T).toArray⟩ ++ ⟨#[47]⟩ ++ ⟨(wrT b.k true T2).toArray⟩ : ByteArray) by rw [bind_1 hca.out hcb.out hc.out, hT, hT2]; apply ByteArray.ext; simp)
  have hl3 : (wrT a.k true T).length ≤ 4000 := by unfold wrT; split <;> (try simp) <;> omega
  have hl4 : (wrT b.k true T2).length ≤ 4000 := by unfold wrT; split <;> (try simp) <;> omega
  have hs1 : ¬ 9223372036854775807 < (wrT a.k true T).length + 1 := by omega
  have hs2 : ¬ 9223372036854775807 < (wrT a.k true T).length + 1 + (wrT b.k true T2).length := by omega
  clear hT2 hT
  have h2 := boxed2 ha hb
  have Fa := Lib.hid h2.1
  have Fb := Lib.hid h2.2.1
  have BB := Lib.hid h2.2.2
  have LL := Lib.hid (hG.below h2.2.2)
  have hL0 := Lib.hid hG
  have DA := Lib.hid hda
  have DB := Lib.hid hdb
  have LA := Lib.hid hla
  have LB := Lib.hid hlb
  clear h2
  clear hG ha hb hda hdb hla hlb
  obtain ⟨a0, a1, a2, a3, a4, _⟩ := Fa.out
  obtain ⟨b0, b1, b2, b3, b4, _⟩ := Fb.out
  unfold Nd.v
  go_enter Tryd.func4, Tryd.ntmps4
  go_wp2_with (go_at_call 10; (with_reducible refine (small_any a [] _ Fa.out.ok LA.out).mono ?_); rintro e w1 ⟨⟨B1, rfl⟩, hbw1⟩; have Fa := Lib.hid (Fa.out.below hbw1); have Fb := Lib.hid (Fb.out.below hbw1); have BB := Lib.hid (below_go BB.out hbw1); have LL := Lib.hid (hL0.out.below BB.out); clear hbw1; obtain ⟨a0, a1, a2, a3, a4, _⟩ := Fa.out; obtain ⟨b0, b1, b2, b3, b4, _⟩ := Fb.out; refine Hid.out ?_)
  cases B1
  · refine Lib.hid ?_
    go_wp2_with (go_at_call 8; (with_reducible refine (awake_any _ LL.out).mono ?_); rintro e wz ⟨rfl, hbz⟩)
    go_ret
    exact ⟨rfl, below_go BB.out hbz⟩
  refine Lib.hid ?_
  go_wp2_with (go_at_call 10; (with_reducible refine (small_any b [] _ Fb.out.ok LB.out).mono ?_); rintro e w2 ⟨⟨B2, rfl⟩, hbw2⟩; have Fa := Lib.hid (Fa.out.below hbw2); have Fb := Lib.hid (Fb.out.below hbw2); have BB := Lib.hid (below_go BB.out hbw2); have LL := Lib.hid (hL0.out.below BB.out); clear hbw2; obtain ⟨a0, a1, a2, a3, a4, _⟩ := Fa.out; obtain ⟨b0, b1, b2, b3, b4, _⟩ := Fb.out; refine Hid.out ?_)
  cases B2
  · refine Lib.hid ?_
    go_wp2_with (go_at_call 8; (with_reducible refine (awake_any _ LL.out).mono ?_); rintro e wz ⟨rfl, hbz⟩)
    go_ret
    exact ⟨rfl, below_go BB.out hbz⟩
  refine Lib.hid ?_
  go_wp2_with (first
    | (go_at_call 11; (with_reducible refine (check_is a _ Fa.out.ok DA.out hca).mono ?_); rintro e w3 ⟨rfl, hbw3⟩; have Fa := Lib.hid (Fa.out.below hbw3); have Fb := Lib.hid (Fb.out.below hbw3); have BB := Lib.hid (below_go BB.out hbw3); have LL := Lib.hid (hL0.out.below BB.out); clear hbw3; obtain ⟨a0, a1, a2, a3, a4, _⟩ := Fa.out; obtain ⟨b0, b1, b2, b3, b4, _⟩ := Fb.out)
    | (go_at_call 11; (with_reducible refine (check_is b _ Fb.out.ok DB.out hcb).mono ?_); rintro e w4 ⟨rfl, hbw4⟩; have Fa := Lib.hid (Fa.out.below hbw4); have Fb := Lib.hid (Fb.out.below hbw4); have BB := Lib.hid (below_go BB.out hbw4); have LL := Lib.hid (hL0.out.below BB.out); clear hbw4; obtain ⟨a0, a1, a2, a3, a4, _⟩ := Fa.out; obtain ⟨b0, b1, b2, b3, b4, _⟩ := Fb.out)
    | (go_at_call 12; (with_reducible refine (text_is a _ Fa.out.ok DA.out HT).mono ?_); rintro e w5 ⟨rfl, hbw5⟩; have Fa := Lib.hid (Fa.out.below hbw5); have Fb := Lib.hid (Fb.out.below hbw5); have BB := Lib.hid (below_go BB.out hbw5); have LL := Lib.hid (hL0.out.below BB.out); clear hbw5; obtain ⟨a0, a1, a2, a3, a4, _⟩ := Fa.out; obtain ⟨b0, b1, b2, b3, b4, _⟩ := Fb.out)
    | (go_at_call 12; (with_reducible refine (text_is b _ Fb.out.ok DB.out HT2).mono ?_); rintro e w6 ⟨rfl, hbw6⟩; have Fa := Lib.hid (Fa.out.below hbw6); have Fb := Lib.hid (Fb.out.below hbw6); have BB := Lib.hid (below_go BB.out hbw6); have LL := Lib.hid (hL0.out.below BB.out); clear hbw6; obtain ⟨a0, a1, a2, a3, a4, _⟩ := Fa.out; obtain ⟨b0, b1, b2, b3, b4, _⟩ := Fb.out)
    | (go_at_call 14; (with_reducible refine (round_any k _).mono ?_); rintro e w7 ⟨rfl, rfl⟩; rw [hk.out]; have Fc := Lib.hid (Fa.out.al (cells5 0 ⟨#[]⟩ none 0 0 0 0)); have Fd := Lib.hid (Fb.out.al (cells5 0 ⟨#[]⟩ none 0 0 0 0)); obtain ⟨a0, a1, a2, a3, a4, _⟩ := Fc.out; obtain ⟨b0, b1, b2, b3, b4, _⟩ := Fd.out))
  have FP := Lib.hid (two_pv 4 w6 Fa.out.ok Fb.out.ok)
  have BB := Lib.hid (below_go BB.out (((Below.refl w6.heap.size w6).alloc (Nat.le_refl _) (cells5 4 ⟨#[]⟩ (some ⟨w6.heap.size + 1, 0, none⟩) 2 2 0 0)).alloc (by simp) (ten a b)))
  have Fa := Lib.hid (((Fa.out.al (cells5 4 ⟨#[]⟩ (some ⟨w6.heap.size + 1, 0, none⟩) 2 2 0 0)).al (ten a b)))
  have Fb := Lib.hid (((Fb.out.al (cells5 4 ⟨#[]⟩ (some ⟨w6.heap.size + 1, 0, none⟩) 2 2 0 0)).al (ten a b)))
  have HS := Lib.hid (fun (w' : World) (h : Below ((w6.alloc (cells5 4 ⟨#[]⟩ (some ⟨w6.heap.size + 1, 0, none⟩) 2 2 0 0)).alloc (ten a b)).heap.size ((w6.alloc (cells5 4 ⟨#[]⟩ (some ⟨w6.heap.size + 1, 0, none⟩) 2 2 0 0)).alloc (ten a b)) w') => (⟨(Fa.out.below h).1, (Fa.out.below h).2.1, (Fa.out.below h).2.2.1, (Fa.out.below h).2.2.2.1, (Fa.out.below h).2.2.2.2.1, (Fb.out.below h).1, (Fb.out.below h).2.1, (Fb.out.below h).2.2.1, (Fb.out.below h).2.2.2.1, (Fb.out.below h).2.2.2.2.1⟩ : w'.cell? ⟨w.heap.size, 0, none⟩ = some (.int .i64 a.k) ∧ w'.cell? ⟨w.heap.size, 1, none⟩ = some (.string a.l) ∧ w'.cell? ⟨w.heap.size, 2, none⟩ = some (.slice a.A a.kids.len a.c) ∧ w'.cell? ⟨w.heap.size, 3, none⟩ = some (.int .i64 a.mn) ∧ w'.cell? ⟨w.heap.size, 4, none⟩ = some (.int .i64 a.mx) ∧ w'.cell? ⟨w.heap.size + 1, 0, none⟩ = some (.int .i64 b.k) ∧ w'.cell? ⟨w.heap.size + 1, 1, none⟩ = some (.string b.l) ∧ w'.cell? ⟨w.heap.size + 1, 2, none⟩ = some (.slice b.A b.kids.len b.c) ∧ w'.cell? ⟨w.heap.size + 1, 3, none⟩ = some (.int .i64 b.mn) ∧ w'.cell? ⟨w.heap.size + 1, 4, none⟩ = some (.int .i64 b.mx)))
  clear a0 a1 a2 a3 a4 b0 b1 b2 b3 b4
  have F1 := HS.out _ (Below.refl _ _)
  go_region_held3 (fun w' => w'.cell? ⟨w.heap.size, 0, none⟩ = some (.int .i64 a.k) ∧ w'.cell? ⟨w.heap.size, 1, none⟩ = some (.string a.l) ∧ w'.cell? ⟨w.heap.size, 2, none⟩ = some (.slice a.A a.kids.len a.c) ∧ w'.cell? ⟨w.heap.size, 3, none⟩ = some (.int .i64 a.mn) ∧ w'.cell? ⟨w.heap.size, 4, none⟩ = some (.int .i64 a.mx) ∧ w'.cell? ⟨w.heap.size + 1, 0, none⟩ = some (.int .i64 b.k) ∧ w'.cell? ⟨w.heap.size + 1, 1, none⟩ = some (.string b.l) ∧ w'.cell? ⟨w.heap.size + 1, 2, none⟩ = some (.slice b.A b.kids.len b.c) ∧ w'.cell? ⟨w.heap.size + 1, 3, none⟩ = some (.int .i64 b.mn) ∧ w'.cell? ⟨w.heap.size + 1, 4, none⟩ = some (.int .i64 b.mx)) (first | exact F1) (first | (go_at_call 13; (with_reducible refine (wrap_any a T true _ (by omega)).mono ?_); rintro e w8 ⟨rfl, hb8⟩; have HB8 := Lib.hid (below_go (Below.refl _ _).drew hb8); have F1 := HS.out _ HB8.out; clear hb8) | (go_at_call 13; (with_reducible refine (wrap_any b T2 true _ (by omega)).mono ?_); rintro e w9 ⟨rfl, hb9⟩; have HB8 := Lib.hid (below_go HB8.out hb9); have F1 := HS.out _ HB8.out; clear hb9))
  all_goals
    have BB := Lib.hid (below_go BB.out HB8.out)
    have LL := Lib.hid (hL0.out.below BB.out)
    have FP := Lib.hid (FP.out.below HB8.out)
    clear F1
    obtain ⟨p0, p1, p2, p3, p4⟩ := two_cells FP.out
  go_wp2_with (first
    | (go_at_call 11; (with_reducible refine (check_two FP.out.ok (bd_two DA.out DB.out _ _) hc).mono ?_); rintro e wa ⟨rfl, hbwa⟩; have FP := Lib.hid (FP.out.below hbwa); have BB := Lib.hid (below_go BB.out hbwa); have LL := Lib.hid (hL0.out.below BB.out); clear hbwa; obtain ⟨p0, p1, p2, p3, p4⟩ := two_cells FP.out)
    | (go_at_call 12; (with_reducible refine (text_two FP.out.ok (bd_two DA.out DB.out _ _) HP).mono ?_); rintro e wb ⟨rfl, hbwb⟩; have FP := Lib.hid (FP.out.below hbwb); have BB := Lib.hid (below_go BB.out hbwb); have LL := Lib.hid (hL0.out.below BB.out); clear hbwb; obtain ⟨p0, p1, p2, p3, p4⟩ := two_cells FP.out)
    | (go_at_call 8; (with_reducible refine (awake_any _ LL.out).mono ?_); rintro e wz ⟨rfl, hbz⟩))
  go_ret
  exact ⟨rfl, below_go BB.out hbz⟩
set_option linter.unusedSimpArgs false in
set_option maxRecDepth 100000 in
set_option maxHeartbeats 16000000 in
theorem binds_2n (a b : Nd) (k : Int) (w : World) (hG : ErG w) (ha : a.ok w []) (hb : b.ok w []) (hda : Bd (a.fo .nil)) (hdb : Bd (b.fo .nil)) (hla : Lb (a.fo .nil)) (hlb : Lb (b.fo .nil)) (hca : Hid (checkE a.k a.l a.kids a.mn a.mx = 0)) (hcb : Hid (checkE b.k b.l b.kids b.mn b.mx = 0)) (hk : Hid (rnd3 k = 2)) (E : Int) (hE : (E != 0) = true) (hc : Hid (checkE 6 ⟨#[]⟩ (a.fo .nil) 0 0 = E)) :
    Calls Tryd.prog 4 #[a.v, b.v, .int .i64 k] w fun e w' => e = .returned (.bool true) ∧ Below w.heap.size w w' := by
  obtain ⟨T, hT⟩ : ∃ T, textT a.k a.l a.kids a.mn a.mx = T := ⟨_, rfl⟩
  have HT := Lib.hid hT
  obtain ⟨T2, hT2⟩ : ∃ T2, textT b.k b.l b.kids b.mn b.mx = T2 := ⟨_, rfl⟩
  have HT2 := Lib.hid hT2
  have hl1 : T.length < 3840 := by rw [← hT, txN_0 _ _ _ _ _ hca.out]; exact (text_len hca.out).1
  have hl2 : T2.length < 3840 := by rw [← hT2, txN_0 _ _ _ _ _ hcb.out]; exact (text_len hcb.out).1
  have HP := Lib.hid (show (⟨(textT 6 ⟨#[]⟩ (a.fo .nil) 0 0).toArray⟩ : ByteArray) = ⟨#[]⟩ by rw [show textT 6 ⟨#[]⟩ (a.fo .nil) 0 0 = [] from textT_ne.2 (by rw [hc.out]; simpa using hE)])
  have hl3 : (wrT a.k false T).length ≤ 4000 := by unfold wrT; split <;> (try simp) <;> omega
  have hs1 : ¬ 9223372036854775807 < (wrT a.k false T).length + 1 := by omega
  clear hT2 hT
  have h2 := boxed2 ha hb
  have Fa := Lib.hid h2.1
  have Fb := Lib.hid h2.2.1
  have BB := Lib.hid h2.2.2
  have LL := Lib.hid (hG.below h2.2.2)
  have hL0 := Lib.hid hG
  have DA := Lib.hid hda
  have DB := Lib.hid hdb
  have LA := Lib.hid hla
  have LB := Lib.hid hlb
  clear h2
  clear hG ha hb hda hdb hla hlb
  obtain ⟨a0, a1, a2, a3, a4, _⟩ := Fa.out
  obtain ⟨b0, b1, b2, b3, b4, _⟩ := Fb.out
  unfold Nd.v
  go_enter Tryd.func4, Tryd.ntmps4
  go_wp2_with (go_at_call 10; (with_reducible refine (small_any a [] _ Fa.out.ok LA.out).mono ?_); rintro e w1 ⟨⟨B1, rfl⟩, hbw1⟩; have Fa := Lib.hid (Fa.out.below hbw1); have Fb := Lib.hid (Fb.out.below hbw1); have BB := Lib.hid (below_go BB.out hbw1); have LL := Lib.hid (hL0.out.below BB.out); clear hbw1; obtain ⟨a0, a1, a2, a3, a4, _⟩ := Fa.out; obtain ⟨b0, b1, b2, b3, b4, _⟩ := Fb.out; refine Hid.out ?_)
  cases B1
  · refine Lib.hid ?_
    go_wp2_with (go_at_call 8; (with_reducible refine (awake_any _ LL.out).mono ?_); rintro e wz ⟨rfl, hbz⟩)
    go_ret
    exact ⟨rfl, below_go BB.out hbz⟩
  refine Lib.hid ?_
  go_wp2_with (go_at_call 10; (with_reducible refine (small_any b [] _ Fb.out.ok LB.out).mono ?_); rintro e w2 ⟨⟨B2, rfl⟩, hbw2⟩; have Fa := Lib.hid (Fa.out.below hbw2); have Fb := Lib.hid (Fb.out.below hbw2); have BB := Lib.hid (below_go BB.out hbw2); have LL := Lib.hid (hL0.out.below BB.out); clear hbw2; obtain ⟨a0, a1, a2, a3, a4, _⟩ := Fa.out; obtain ⟨b0, b1, b2, b3, b4, _⟩ := Fb.out; refine Hid.out ?_)
  cases B2
  · refine Lib.hid ?_
    go_wp2_with (go_at_call 8; (with_reducible refine (awake_any _ LL.out).mono ?_); rintro e wz ⟨rfl, hbz⟩)
    go_ret
    exact ⟨rfl, below_go BB.out hbz⟩
  refine Lib.hid ?_
  go_wp2_with (first
    | (go_at_call 11; (with_reducible refine (check_is a _ Fa.out.ok DA.out hca).mono ?_); rintro e w3 ⟨rfl, hbw3⟩; have Fa := Lib.hid (Fa.out.below hbw3); have Fb := Lib.hid (Fb.out.below hbw3); have BB := Lib.hid (below_go BB.out hbw3); have LL := Lib.hid (hL0.out.below BB.out); clear hbw3; obtain ⟨a0, a1, a2, a3, a4, _⟩ := Fa.out; obtain ⟨b0, b1, b2, b3, b4, _⟩ := Fb.out)
    | (go_at_call 11; (with_reducible refine (check_is b _ Fb.out.ok DB.out hcb).mono ?_); rintro e w4 ⟨rfl, hbw4⟩; have Fa := Lib.hid (Fa.out.below hbw4); have Fb := Lib.hid (Fb.out.below hbw4); have BB := Lib.hid (below_go BB.out hbw4); have LL := Lib.hid (hL0.out.below BB.out); clear hbw4; obtain ⟨a0, a1, a2, a3, a4, _⟩ := Fa.out; obtain ⟨b0, b1, b2, b3, b4, _⟩ := Fb.out)
    | (go_at_call 12; (with_reducible refine (text_is a _ Fa.out.ok DA.out HT).mono ?_); rintro e w5 ⟨rfl, hbw5⟩; have Fa := Lib.hid (Fa.out.below hbw5); have Fb := Lib.hid (Fb.out.below hbw5); have BB := Lib.hid (below_go BB.out hbw5); have LL := Lib.hid (hL0.out.below BB.out); clear hbw5; obtain ⟨a0, a1, a2, a3, a4, _⟩ := Fa.out; obtain ⟨b0, b1, b2, b3, b4, _⟩ := Fb.out)
    | (go_at_call 12; (with_reducible refine (text_is b _ Fb.out.ok DB.out HT2).mono ?_); rintro e w6 ⟨rfl, hbw6⟩; have Fa := Lib.hid (Fa.out.below hbw6); have Fb := Lib.hid (Fb.out.below hbw6); have BB := Lib.hid (below_go BB.out hbw6); have LL := Lib.hid (hL0.out.below BB.out); clear hbw6; obtain ⟨a0, a1, a2, a3, a4, _⟩ := Fa.out; obtain ⟨b0, b1, b2, b3, b4, _⟩ := Fb.out)
    | (go_at_call 14; (with_reducible refine (round_any k _).mono ?_); rintro e w7 ⟨rfl, rfl⟩; rw [hk.out]; have Fc := Lib.hid (Fa.out.al (cells5 0 ⟨#[]⟩ none 0 0 0 0)); have Fd := Lib.hid (Fb.out.al (cells5 0 ⟨#[]⟩ none 0 0 0 0)); obtain ⟨a0, a1, a2, a3, a4, _⟩ := Fc.out; obtain ⟨b0, b1, b2, b3, b4, _⟩ := Fd.out; have Fe := Lib.hid ((Fa.out.al (cells5 6 ⟨#[]⟩ (some ⟨w6.heap.size + 1, 0, none⟩) 1 1 0 0)).al (cells5 a.k a.l a.A a.kids.len a.c a.mn a.mx)); obtain ⟨c0, c1, c2, c3, c4, _⟩ := Fe.out)
    | (go_at_call 13; have FP := Lib.hid (solo_pv 6 w6 Fa.out.ok); (with_reducible refine (wrap_any a T false _ (by omega)).mono ?_); rintro e w8 ⟨rfl, hb8⟩; have BB := Lib.hid (below_go (below_go BB.out (((Below.refl w6.heap.size w6).alloc (Nat.le_refl _) (cells5 6 ⟨#[]⟩ (some ⟨w6.heap.size + 1, 0, none⟩) 1 1 0 0)).alloc (by simp) (cells5 a.k a.l a.A a.kids.len a.c a.mn a.mx))) hb8); have LL := Lib.hid (hL0.out.below BB.out); have FP := Lib.hid (FP.out.below hb8); obtain ⟨p0, p1, p2, p3, p4⟩ := solo_cells FP.out; clear hb8)
    | (go_at_call 11; (with_reducible refine (check_solo FP.out.ok (bd_solo DA.out _ _) hc).mono ?_); rintro e wa ⟨rfl, hbwa⟩; have FP := Lib.hid (FP.out.below hbwa); have BB := Lib.hid (below_go BB.out hbwa); have LL := Lib.hid (hL0.out.below BB.out); clear hbwa; obtain ⟨p0, p1, p2, p3, p4⟩ := solo_cells FP.out)
    | (go_at_call 12; (with_reducible refine (text_solo FP.out.ok (bd_solo DA.out _ _) HP).mono ?_); rintro e wb ⟨rfl, hbwb⟩; have FP := Lib.hid (FP.out.below hbwb); have BB := Lib.hid (below_go BB.out hbwb); have LL := Lib.hid (hL0.out.below BB.out); clear hbwb; obtain ⟨p0, p1, p2, p3, p4⟩ := solo_cells FP.out)
    | (go_at_call 8; (with_reducible refine (awake_any _ LL.out).mono ?_); rintro e wz ⟨rfl, hbz⟩))
  go_ret
  exact ⟨rfl, below_go BB.out hbz⟩
set_option linter.unusedSimpArgs false in
set_option maxRecDepth 100000 in
set_option maxHeartbeats 16000000 in
theorem binds_2y (a b : Nd) (k : Int) (w : World) (hG : ErG w) (ha : a.ok w []) (hb : b.ok w []) (hda : Bd (a.fo .nil)) (hdb : Bd (b.fo .nil)) (hla : Lb (a.fo .nil)) (hlb : Lb (b.fo .nil)) (hca : Hid (checkE a.k a.l a.kids a.mn a.mx = 0)) (hcb : Hid (checkE b.k b.l b.kids b.mn b.mx = 0)) (hk : Hid (rnd3 k = 2)) (hc : Hid (checkE 6 ⟨#[]⟩ (a.fo .nil) 0 0 = 0)) :
    Calls Tryd.prog 4 #[a.v, b.v, .int .i64 k] w fun e w' => e = .returned (.bool true) ∧ Below w.heap.size w w' := by
  obtain ⟨T, hT⟩ : ∃ T, textT a.k a.l a.kids a.mn a.mx = T := ⟨_, rfl⟩
  have HT := Lib.hid hT
  obtain ⟨T2, hT2⟩ : ∃ T2, textT b.k b.l b.kids b.mn b.mx = T2 := ⟨_, rfl⟩
  have HT2 := Lib.hid hT2
  have hl1 : T.length < 3840 := by rw [← hT, txN_0 _ _ _ _ _ hca.out]; exact (text_len hca.out).1
  have hl2 : T2.length < 3840 := by rw [← hT2, txN_0 _ _ _ _ _ hcb.out]; exact (text_len hcb.out).1
  have HP := Lib.hid (show (⟨(textT 6 ⟨#[]⟩ (a.fo .nil) 0 0).toArray⟩ : ByteArray) = (⟨(wrT a.k false T).toArray⟩ ++ ⟨#[42]⟩ : ByteArray) by rw [bind_2 hca.out hc.out, hT]; apply ByteArray.ext; simp)
  have hl3 : (wrT a.k false T).length ≤ 4000 := by unfold wrT; split <;> (try simp) <;> omega
  have hs1 : ¬ 9223372036854775807 < (wrT a.k false T).length + 1 := by omega
  clear hT2 hT
  have h2 := boxed2 ha hb
  have Fa := Lib.hid h2.1
  have Fb := Lib.hid h2.2.1
  have BB := Lib.hid h2.2.2
  have LL := Lib.hid (hG.below h2.2.2)
  have hL0 := Lib.hid hG
  have DA := Lib.hid hda
  have DB := Lib.hid hdb
  have LA := Lib.hid hla
  have LB := Lib.hid hlb
  clear h2
  clear hG ha hb hda hdb hla hlb
  obtain ⟨a0, a1, a2, a3, a4, _⟩ := Fa.out
  obtain ⟨b0, b1, b2, b3, b4, _⟩ := Fb.out
  unfold Nd.v
  go_enter Tryd.func4, Tryd.ntmps4
  go_wp2_with (go_at_call 10; (with_reducible refine (small_any a [] _ Fa.out.ok LA.out).mono ?_); rintro e w1 ⟨⟨B1, rfl⟩, hbw1⟩; have Fa := Lib.hid (Fa.out.below hbw1); have Fb := Lib.hid (Fb.out.below hbw1); have BB := Lib.hid (below_go BB.out hbw1); have LL := Lib.hid (hL0.out.below BB.out); clear hbw1; obtain ⟨a0, a1, a2, a3, a4, _⟩ := Fa.out; obtain ⟨b0, b1, b2, b3, b4, _⟩ := Fb.out; refine Hid.out ?_)
  cases B1
  · refine Lib.hid ?_
    go_wp2_with (go_at_call 8; (with_reducible refine (awake_any _ LL.out).mono ?_); rintro e wz ⟨rfl, hbz⟩)
    go_ret
    exact ⟨rfl, below_go BB.out hbz⟩
  refine Lib.hid ?_
  go_wp2_with (go_at_call 10; (with_reducible refine (small_any b [] _ Fb.out.ok LB.out).mono ?_); rintro e w2 ⟨⟨B2, rfl⟩, hbw2⟩; have Fa := Lib.hid (Fa.out.below hbw2); have Fb := Lib.hid (Fb.out.below hbw2); have BB := Lib.hid (below_go BB.out hbw2); have LL := Lib.hid (hL0.out.below BB.out); clear hbw2; obtain ⟨a0, a1, a2, a3, a4, _⟩ := Fa.out; obtain ⟨b0, b1, b2, b3, b4, _⟩ := Fb.out; refine Hid.out ?_)
  cases B2
  · refine Lib.hid ?_
    go_wp2_with (go_at_call 8; (with_reducible refine (awake_any _ LL.out).mono ?_); rintro e wz ⟨rfl, hbz⟩)
    go_ret
    exact ⟨rfl, below_go BB.out hbz⟩
  refine Lib.hid ?_
  go_wp2_with (first
    | (go_at_call 11; (with_reducible refine (check_is a _ Fa.out.ok DA.out hca).mono ?_); rintro e w3 ⟨rfl, hbw3⟩; have Fa := Lib.hid (Fa.out.below hbw3); have Fb := Lib.hid (Fb.out.below hbw3); have BB := Lib.hid (below_go BB.out hbw3); have LL := Lib.hid (hL0.out.below BB.out); clear hbw3; obtain ⟨a0, a1, a2, a3, a4, _⟩ := Fa.out; obtain ⟨b0, b1, b2, b3, b4, _⟩ := Fb.out)
    | (go_at_call 11; (with_reducible refine (check_is b _ Fb.out.ok DB.out hcb).mono ?_); rintro e w4 ⟨rfl, hbw4⟩; have Fa := Lib.hid (Fa.out.below hbw4); have Fb := Lib.hid (Fb.out.below hbw4); have BB := Lib.hid (below_go BB.out hbw4); have LL := Lib.hid (hL0.out.below BB.out); clear hbw4; obtain ⟨a0, a1, a2, a3, a4, _⟩ := Fa.out; obtain ⟨b0, b1, b2, b3, b4, _⟩ := Fb.out)
    | (go_at_call 12; (with_reducible refine (text_is a _ Fa.out.ok DA.out HT).mono ?_); rintro e w5 ⟨rfl, hbw5⟩; have Fa := Lib.hid (Fa.out.below hbw5); have Fb := Lib.hid (Fb.out.below hbw5); have BB := Lib.hid (below_go BB.out hbw5); have LL := Lib.hid (hL0.out.below BB.out); clear hbw5; obtain ⟨a0, a1, a2, a3, a4, _⟩ := Fa.out; obtain ⟨b0, b1, b2, b3, b4, _⟩ := Fb.out)
    | (go_at_call 12; (with_reducible refine (text_is b _ Fb.out.ok DB.out HT2).mono ?_); rintro e w6 ⟨rfl, hbw6⟩; have Fa := Lib.hid (Fa.out.below hbw6); have Fb := Lib.hid (Fb.out.below hbw6); have BB := Lib.hid (below_go BB.out hbw6); have LL := Lib.hid (hL0.out.below BB.out); clear hbw6; obtain ⟨a0, a1, a2, a3, a4, _⟩ := Fa.out; obtain ⟨b0, b1, b2, b3, b4, _⟩ := Fb.out)
    | (go_at_call 14; (with_reducible refine (round_any k _).mono ?_); rintro e w7 ⟨rfl, rfl⟩; rw [hk.out]; have Fc := Lib.hid (Fa.out.al (cells5 0 ⟨#[]⟩ none 0 0 0 0)); have Fd := Lib.hid (Fb.out.al (cells5 0 ⟨#[]⟩ none 0 0 0 0)); obtain ⟨a0, a1, a2, a3, a4, _⟩ := Fc.out; obtain ⟨b0, b1, b2, b3, b4, _⟩ := Fd.out; have Fe := Lib.hid ((Fa.out.al (cells5 6 ⟨#[]⟩ (some ⟨w6.heap.size + 1, 0, none⟩) 1 1 0 0)).al (cells5 a.k a.l a.A a.kids.len a.c a.mn a.mx)); obtain ⟨c0, c1, c2, c3, c4, _⟩ := Fe.out)
    | (go_at_call 13; have FP := Lib.hid (solo_pv 6 w6 Fa.out.ok); (with_reducible refine (wrap_any a T false _ (by omega)).mono ?_); rintro e w8 ⟨rfl, hb8⟩; have BB := Lib.hid (below_go (below_go BB.out (((Below.refl w6.heap.size w6).alloc (Nat.le_refl _) (cells5 6 ⟨#[]⟩ (some ⟨w6.heap.size + 1, 0, none⟩) 1 1 0 0)).alloc (by simp) (cells5 a.k a.l a.A a.kids.len a.c a.mn a.mx))) hb8); have LL := Lib.hid (hL0.out.below BB.out); have FP := Lib.hid (FP.out.below hb8); obtain ⟨p0, p1, p2, p3, p4⟩ := solo_cells FP.out; clear hb8)
    | (go_at_call 11; (with_reducible refine (check_solo FP.out.ok (bd_solo DA.out _ _) hc).mono ?_); rintro e wa ⟨rfl, hbwa⟩; have FP := Lib.hid (FP.out.below hbwa); have BB := Lib.hid (below_go BB.out hbwa); have LL := Lib.hid (hL0.out.below BB.out); clear hbwa; obtain ⟨p0, p1, p2, p3, p4⟩ := solo_cells FP.out)
    | (go_at_call 12; (with_reducible refine (text_solo FP.out.ok (bd_solo DA.out _ _) HP).mono ?_); rintro e wb ⟨rfl, hbwb⟩; have FP := Lib.hid (FP.out.below hbwb); have BB := Lib.hid (below_go BB.out hbwb); have LL := Lib.hid (hL0.out.below BB.out); clear hbwb; obtain ⟨p0, p1, p2, p3, p4⟩ := solo_cells FP.out)
    | (go_at_call 8; (with_reducible refine (awake_any _ LL.out).mono ?_); rintro e wz ⟨rfl, hbz⟩))
  go_ret
  exact ⟨rfl, below_go BB.out hbz⟩
theorem pathBinds_law (a b : Nd) (k : Int) (w : World) (hG : ErG w) (ha : a.ok w []) (hda : Bd (a.fo .nil) ∧ Lb (a.fo .nil)) (hb : b.ok w []) (hdb : Bd (b.fo .nil) ∧ Lb (b.fo .nil)) : Calls Tryd.prog 4 #[a.v, b.v, .int .i64 k] w fun e w' => e = .returned (.bool true) ∧ Below w.heap.size w w' := by
  by_cases hca : checkE a.k a.l a.kids a.mn a.mx = 0
  · by_cases hcb : checkE b.k b.l b.kids b.mn b.mx = 0
    · rcases rnd3_is k with hk | hk | hk
      · by_cases hc : checkE 5 ⟨#[]⟩ (a.fo (b.fo .nil)) 0 0 = 0
        · exact binds_0y a b k w hG ha hb hda.1 hdb.1 hda.2 hdb.2 (Lib.hid hca) (Lib.hid hcb) (Lib.hid hk) (Lib.hid hc)
        · exact binds_0n a b k w hG ha hb hda.1 hdb.1 hda.2 hdb.2 (Lib.hid hca) (Lib.hid hcb) (Lib.hid hk) _ (bne_iff_ne.2 hc) (Lib.hid rfl)
      · by_cases hc : checkE 4 ⟨#[]⟩ (a.fo (b.fo .nil)) 0 0 = 0
        · exact binds_1y a b k w hG ha hb hda.1 hdb.1 hda.2 hdb.2 (Lib.hid hca) (Lib.hid hcb) (Lib.hid hk) (Lib.hid hc)
        · exact binds_1n a b k w hG ha hb hda.1 hdb.1 hda.2 hdb.2 (Lib.hid hca) (Lib.hid hcb) (Lib.hid hk) _ (bne_iff_ne.2 hc) (Lib.hid rfl)
      · by_cases hc : checkE 6 ⟨#[]⟩ (a.fo .nil) 0 0 = 0
        · exact binds_2y a b k w hG ha hb hda.1 hdb.1 hda.2 hdb.2 (Lib.hid hca) (Lib.hid hcb) (Lib.hid hk) (Lib.hid hc)
        · exact binds_2n a b k w hG ha hb hda.1 hdb.1 hda.2 hdb.2 (Lib.hid hca) (Lib.hid hcb) (Lib.hid hk) _ (bne_iff_ne.2 hc) (Lib.hid rfl)
    · exact binds_bad a b k w hG ha hb hda.1 hdb.1 hda.2 hdb.2 (Lib.hid hca) _ (bne_iff_ne.2 hcb) (Lib.hid rfl)
  · exact binds_no a b k w hG ha hb hda.1 hdb.1 hda.2 hdb.2 _ (bne_iff_ne.2 hca) (Lib.hid rfl)
end Go.Proofs.YthbodojhddmbhaaDoor.Pa
