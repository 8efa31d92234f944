/- A value's text read back. Conditions: the library's tables are laid; the values can be read. -/
import Derived.Test.YtdkmmnehlmaebaaGreatDoorBa
import Derived.Test.YtdkmmnehlmaebaaGreatDoorNPa
namespace Go.Proofs.YtdkmmnehlmaebaaGreatDoor.Se
open Go.RowKit Go.NT Go.FT Go.FX Go.Lib Na

theorem Five.far {w : World} {g g' : Nat} {a : SV} (h : Five w g a) (hv : VB w g') (hne : g ≠ g') (k : Nat) (u : Value) : Five (w.setCell ⟨g', k, none⟩ u) g a := by
  have e : ∀ j, (w.setCell ⟨g', k, none⟩ u).cell? ⟨g, j, none⟩ = w.cell? ⟨g, j, none⟩ := fun j => World.cell?_setCell_other w _ _ u (fun e2 => hne (by injection e2 with e3; exact e3.symm))
  exact ⟨(e 0).trans h.1, (e 1).trans h.2.1, (e 2).trans h.2.2.1, (e 3).trans h.2.2.2.1, (e 4).trans h.2.2.2.2.1, by simpa using h.2.2.2.2.2.1, h.ok.set hv k u⟩
theorem frozen_set {w : World} {a a' : Addr} {u : Value} : (w.setCell a u).frozen? a' = w.frozen? a' := by simp
theorem Var.away {w : World} {g g' : Nat} {a : SV} (h : Var w g a) (hv : VB w g') (hne : g ≠ g') (k : Nat) (u : Value) : Var (w.setCell ⟨g', k, none⟩ u) g a := by
  have e : ∀ j, (w.setCell ⟨g', k, none⟩ u).cell? ⟨g, j, none⟩ = w.cell? ⟨g, j, none⟩ := fun j => World.cell?_setCell_other w _ _ u (fun e2 => hne (by injection e2 with e3; exact e3.symm))
  exact ⟨h.1.far hv hne k u, fun j z => by rw [e j]; exact h.2.1 j z, frozen_set.trans h.2.2.1, frozen_set.trans h.2.2.2.1, frozen_set.trans h.2.2.2.2.1, frozen_set.trans h.2.2.2.2.2.1, frozen_set.trans h.2.2.2.2.2.2⟩
/-- A number put into a value's own cells. -/
theorem Var.put {w : World} {g : Nat} {s : Int} {b0 : Bool} {A0 : Option Addr} {n0 c0 : Nat} {xs0 : List Int} (h : Var w g (SV.nat s b0 A0 n0 c0 xs0)) (b : Bool) {A : Option Addr} {n c : Nat} {xs : List Int} (hv : NV w A n c xs) :
    Var ((w.setCell ⟨g, 1, none⟩ (.bool b)).setCell ⟨g, 2, none⟩ (.slice A n c)) g (SV.nat s b A n c xs) := by
  obtain ⟨⟨r0, r1, r2, r3, r4, r5, _⟩, hvb, f0, f1, f2, f3, f4⟩ := h
  have hv2 := (hvb.set 1 (u := .bool b) rfl).set 2 (u := .slice A n c) rfl
  refine ⟨⟨?_, ?_, ?_, ?_, ?_, by simpa using r5, ((nat_ok (b := b) s hv).set hvb 1 _).set (hvb.set 1 rfl) 2 _⟩, hv2, ?_, ?_, ?_, ?_, ?_⟩
  · simp [go_sem, r0, r1, r2, r3, r4]
  · simp [go_sem, r0, r1, r2, r3, r4]
  · simp [go_sem, r0, r1, r2, r3, r4]
  · simp [go_sem, r0, r1, r2, r3, r4]
  · simp [go_sem, r0, r1, r2, r3, r4]
  · exact frozen_set.trans (frozen_set.trans f0)
  · exact frozen_set.trans (frozen_set.trans f1)
  · exact frozen_set.trans (frozen_set.trans f2)
  · exact frozen_set.trans (frozen_set.trans f3)
  · exact frozen_set.trans (frozen_set.trans f4)
theorem T_eq_same {x y : Nat} (hx : x < W64) (hy : y < W64) : decide (T x = T y) = same x y := by
  unfold same
  by_cases h : can x = can y
  · rw [decide_eq_true h, decide_eq_true (T_congr h)]
  · rw [decide_eq_false h, decide_eq_false (fun e => h (T_inj hx hy e))]
theorem texts_eq {S S2 : ByteArray} {l m : List UInt8} (h : S.data.toList = l) (h2 : S2.data.toList = m) : (S.toList == S2.toList) = decide (l = m) := by
  rw [ByteArray.toList_eq, ByteArray.toList_eq, h, h2, Bool.eq_iff_iff, beq_iff_eq, decide_eq_true_iff]
theorem parse_tr (S : ByteArray) {x : Nat} (hx : x < W64) (h : S.data.toList = T x) (hs : S.size ≤ 4000000000) (w : World) (hl : Lay w) :
    Calls Tryz.prog 64 #[.string S] w fun e w' => e = .returned (.tuple #[.float .f64 (can x), .int .i64 0]) ∧ Below w.heap.size w w' := by
  refine (parse_any S hs w hl).mono fun e w' hp => ?_
  unfold PR at hp
  rw [h, pv_text hx] at hp
  exact hp
theorem body_len {r : Nat} (hr : r ≤ INF) : (body r).length ≤ 100 := by
  rcases (body_shape hr).2 with ⟨_, h⟩ | ⟨_, _, h, h2, h3, h4, _⟩
  · rw [h]; decide
  · rw [h, List.length_append, List.length_cons]
    have a := dec_len (u := (oe r).1) (k := 20) (by omega) (by unfold B at h2; omega)
    have b := itoa_len (n := (oe r).2) (by omega) (by omega)
    omega
theorem T_len (x : Nat) : (T x).length ≤ 200 := by
  cases h : isN x
  · have := body_len (isN_false h)
    rw [T_fin h, List.length_append]
    cases ng x
    · rw [if_neg Bool.false_ne_true]; simp; omega
    · rw [if_pos rfl]; simp; omega
  · rw [T_nan h]; decide
theorem T_size {S : ByteArray} {x : Nat} (h : S.data.toList = T x) : S.size ≤ 4000000000 := by
  rw [size_eq, h]; have := T_len x; omega

theorem bs_data (l : List UInt8) : (bs l).data.toList = l := by simp [bs]
theorem dec_first {v : Int} : (decI v).head? ≠ some 105 := by
  intro h
  cases e : decI v with
  | nil => rw [e] at h; cases h
  | cons d t =>
    rw [e] at h
    have h1 : d = 105 := by simpa using h
    have h2 := dec_dig v.toNat d (by show d ∈ decI v; rw [e]; exact List.mem_cons_self ..)
    rw [h1] at h2
    have := h2.2
    revert this; decide
theorem nparse_any (S : ByteArray) (m : Option Int) (hm : ∀ v, m = some v → 0 ≤ v) (h : S.data.toList = txtM m) (h7 : S.size ≤ 700) (w : World) (ht : Tab w) :
    Calls Tryz.prog 62 #[.string S] w fun e w' => ∃ (b : Bool) (A : Option Addr) (n c : Nat) (rs : List Int), e = .returned (.tuple #[.agg #[.bool b, .slice A n c], .int .i64 0]) ∧ NV w' A n c rs ∧ Hid (mean b rs = m) ∧ Hid (Norm rs) ∧ Hid (b = true → rs = []) ∧ Hid (n ≤ 2100) ∧ Below w.heap.size w w' := by
  cases m with
  | none =>
    have hi : (S.toList == [105, 110, 102]) = true := by rw [ByteArray.toList_eq, h]; rfl
    refine (Na.parse_inf S w (by omega) hi).mono ?_
    rintro e w' ⟨rfl, hb⟩
    exact ⟨true, none, 0, 0, [], rfl, NV.nil _, Lib.hid rfl, Lib.hid Norm.nil, Lib.hid (fun _ => rfl), Lib.hid (Nat.zero_le _), hb⟩
  | some v =>
    have h : S.data.toList = decI v := h
    have hv := hm v rfl
    have hi : (S.toList == [105, 110, 102]) = false := by
      rw [ByteArray.toList_eq, h]
      cases e : (decI v == [105, 110, 102])
      · rfl
      · have e := eq_of_beq e
        exact absurd (by rw [e]; rfl) (dec_first (v := v))
    have hd : ∀ d ∈ S.data.toList, dig d := by rw [h]; exact dec_dig v.toNat
    have hval : dval S.data.toList = v := by
      rw [h]
      show dval (decDigits v.toNat) = v
      rw [dval_dec]; omega
    have hT : ((bs (decI (dval S.data.toList))).toList == S.toList) = true := by
      rw [hval, ByteArray.toList_eq, ByteArray.toList_eq, bs_data, h]; simp
    refine (Na.parse_dig S w ht (by omega) hi hd true _ (Lib.hid rfl) hT).mono ?_
    intro e w' hp
    unfold Na.PN at hp
    rw [if_pos rfl, hval] at hp
    obtain ⟨b, A, n, c, rs, he, hv1, hm1, hn1, hb1, hn2, hb⟩ := hp
    exact ⟨b, A, n, c, rs, he, hv1, hm1, hn1, hb1, Lib.hid hn2, hb⟩
theorem atoi_lev {lv : Int} (h0 : 0 ≤ lv) (h1 : lv ≤ 7) : Lib.atoi (itoa lv) = some lv ∧ (itoa lv).length = 1 := by
  have : lv = 0 ∨ lv = 1 ∨ lv = 2 ∨ lv = 3 ∨ lv = 4 ∨ lv = 5 ∨ lv = 6 ∨ lv = 7 := by omega
  rcases this with rfl | rfl | rfl | rfl | rfl | rfl | rfl | rfl <;> exact ⟨by decide +kernel, by decide +kernel⟩
theorem atoi_any (S : ByteArray) (lv : Int) (h0 : 0 ≤ lv) (h1 : lv ≤ 7) (h : S.data.toList = itoa lv) (w : World) :
    Calls Tryz.prog 63 #[.string S] w fun e w' => e = .returned (.tuple #[.int .i64 lv, .nilIface]) ∧ Below w.heap.size w w' := by
  have hk := atoi_lev h0 h1
  have hs : S.size ≤ 18 := by
    have : S.data.toList.length = S.size := by simp
    rw [h, hk.2] at this; omega
  refine (Tryz.strconv_Atoi S lv hs (by rw [h]; exact hk.1) w).mono ?_
  rintro e w' ⟨he, t, rfl⟩
  exact ⟨he, Lib.bytesWorld_below _ _ _⟩
theorem fparse_any (S : ByteArray) (x : Nat) (hx : x ≤ INF) (h : S.data.toList = T x) (w : World) (hl : Lay w) :
    Calls Tryz.prog 64 #[.string S] w fun e w' => e = .returned (.tuple #[.float .f64 x, .int .i64 0]) ∧ Below w.heap.size w w' := by
  have := parse_tr S (Nat.lt_of_le_of_lt hx (by decide)) h (T_size h) w hl
  rwa [can_ok (clr_of hx (Nat.le_refl _)).1] at this
/-- The text of a value, named ahead. -/
theorem text_at (a : SV) (w : World) (ha : a.ok w) (hn : a.n ≤ 1099511627776) (hl : Lay w) (HM : Hid (a.may = 0)) {S : ByteArray} (h : Hid (S.data.toList = a.txt)) :
    Calls Tryz.prog 30 #[a.v] w fun e w' => e = .returned (.string S) ∧ Below w.heap.size w w' := by
  rw [strV_of h.out]
  exact text_sv a w ha hn hl HM
/-- A value read: alike with what was written. -/
def BK (a : SV) (w w' : World) (e : Ending) : Prop := ∃ r : SV, e = .returned (.tuple #[r.v, .int .i64 0]) ∧ r.ok w' ∧ Hid (sameE r a = true) ∧ Hid (r.n ≤ 2100) ∧ Below w.heap.size w w'
theorem BK.mk' {a : SV} {w w' : World} (r : SV) (ho : r.ok w') (hs : sameE r a = true) (hn : r.n ≤ 2100) (hb : Below w.heap.size w w') : BK a w w' (.returned (.tuple #[r.v, .int .i64 0])) := ⟨r, rfl, ho, Lib.hid hs, Lib.hid hn, hb⟩
theorem Var.lev {w : World} {g : Nat} {s : Int} {l0 : Int} (h : Var w g (SV.lev s l0)) (l : Int) : Var (w.setCell ⟨g, 3, none⟩ (.int .i64 l)) g (SV.lev s l) := by
  obtain ⟨⟨r0, r1, r2, r3, r4, r5, _⟩, hvb, f0, f1, f2, f3, f4⟩ := h
  have hv2 := hvb.set 3 (u := .int .i64 l) rfl
  refine ⟨⟨?_, ?_, ?_, ?_, ?_, by simpa using r5, lev_ok _ _ _⟩, hv2, frozen_set.trans f0, frozen_set.trans f1, frozen_set.trans f2, frozen_set.trans f3, frozen_set.trans f4⟩ <;> simp [go_sem, r0, r1, r2, r3, r4]
theorem Var.dbl {w : World} {g : Nat} {s : Int} {x0 : Nat} (h : Var w g (SV.dbl s x0)) (x : Nat) (hx : x < W64) : Var (w.setCell ⟨g, 4, none⟩ (.float .f64 x)) g (SV.dbl s x) := by
  obtain ⟨⟨r0, r1, r2, r3, r4, r5, _⟩, hvb, f0, f1, f2, f3, f4⟩ := h
  have hv2 := hvb.set 4 (u := .float .f64 x) rfl
  refine ⟨⟨?_, ?_, ?_, ?_, ?_, by simpa using r5, dbl_ok _ _ _ hx⟩, hv2, frozen_set.trans f0, frozen_set.trans f1, frozen_set.trans f2, frozen_set.trans f3, frozen_set.trans f4⟩ <;> simp [go_sem, r0, r1, r2, r3, r4]
/-- A result's variable, and one for what is read. -/
theorem twin {w : World} {s : Int} : ∀ W, W = (w.alloc (.cells #[.int .i64 0, .bool false, .slice none 0 0, .int .i64 0, .float .f64 0] 27)).alloc (.cells #[.int .i64 s, .bool false, .slice none 0 0, .int .i64 0, .float .f64 0] 27) →
    Var W w.heap.size (SV.lev 0 0) ∧ Var W (w.heap.size + 1) (SV.lev s 0) ∧ Below w.heap.size w W := by
  intro W hW
  subst hW
  have hR := var_new w (SV.lev 0 0) (lev_ok _ _ _)
  have hV := var_new (w.alloc (.cells #[.int .i64 0, .bool false, .slice none 0 0, .int .i64 0, .float .f64 0] 27)) (SV.lev s 0) (lev_ok _ _ _)
  rw [show (w.alloc (.cells #[.int .i64 0, .bool false, .slice none 0 0, .int .i64 0, .float .f64 0] 27)).heap.size = w.heap.size + 1 by simp] at hV
  exact ⟨hR.al _, hV, below_al (below_al (Below.refl _ _) _) _⟩
set_option maxRecDepth 100000 in
set_option maxHeartbeats 2000000 in
theorem parse_nat (a : SV) (S : ByteArray) (w w0 : World) (ha : a.ok w0) (hl : Lay w) (HM : Hid (a.may = 0)) (HN : Hid (natB a.s = true)) (hn : a.n ≤ 60) (hS : Hid (S.data.toList = a.txt)) (hne : (S.toList == []) = false) :
    Calls Tryz.prog 31 #[.int .i64 a.s, .string S] w fun e w' => BK a w w' e := by
  have HKn := Lib.hid (may_named HM.out)
  have h2 := Lib.hid (twin (w := w) (s := a.s) _ rfl)
  have FR := Lib.hid h2.out.1
  have FV := Lib.hid h2.out.2.1
  have BB := Lib.hid h2.out.2.2
  have hL0 := Lib.hid hl
  have LL := Lib.hid (hl.below h2.out.2.2)
  have hm0 := val_of_may ha HM.out
  have hd := hS.out
  unfold SV.txt at hd
  rw [HN.out, if_pos rfl] at hd
  have h7 : S.size ≤ 700 := by
    have e : S.data.toList.length = S.size := by simp
    rw [← e, hd]
    unfold mean
    cases a.b
    · rw [if_neg Bool.false_ne_true]
      have := NT.dec_len ha.1.2.2.1
      rw [ha.1.len] at this
      show (decI (val a.xs)).length ≤ 700
      omega
    · rw [if_pos rfl]; decide
  have hp := Lib.hid (fun W (h : Tab W) => nparse_any S (mean a.b a.xs) hm0.2.1 hd h7 W h)
  have hfin := Lib.hid (fun (b : Bool) (A : Option Addr) (n c : Nat) (rs : List Int) (W : World) (hv : NV W A n c rs) (h1 : mean b rs = mean a.b a.xs) (h2 : Norm rs) (h3 : b = true → rs = []) => show (SV.nat a.s b A n c rs).may = 0 ∧ (SV.nat a.s b A n c rs).txt = a.txt ∧ sameE (SV.nat a.s b A n c rs) a = true by
    have k1 : (SV.nat a.s b A n c rs).may = 0 := (may_canon (nat_ok a.s hv) ⟨h2, h3⟩).trans (mayC_nat HKn.out HN.out)
    refine ⟨k1, ?_, ?_⟩
    · unfold SV.txt; rw [show (SV.nat a.s b A n c rs).s = a.s from rfl, HN.out, if_pos rfl, if_pos rfl]; rw [show (SV.nat a.s b A n c rs).b = b from rfl, show (SV.nat a.s b A n c rs).xs = rs from rfl, h1]
    · refine same_at k1 HM.out rfl ?_
      unfold sameC
      rw [show (SV.nat a.s b A n c rs).con.s = a.s from rfl, HN.out, if_pos rfl]
      exact decide_eq_true h1)
  clear hm0 hd h7 ha hl h2 hn
  obtain ⟨⟨r0, r1, r2, r3, r4, r5, _⟩, rvb, f0, f1, f2, f3, f4⟩ := FR.out
  obtain ⟨⟨o0, o1, o2, o3, o4, o5, _⟩, ovb, g0, g1, g2, g3, g4⟩ := FV.out
  go_enter Tryz.func31, Tryz.ntmps31
  go_wp2_with (first
    | (go_at_call 32; (with_reducible refine (known_any a.s _).mono ?_); rw [HKn.out]; rintro e w' ⟨rfl, rfl⟩)
    | (go_at_call 49; (with_reducible refine (isNat_any a.s _).mono ?_); rw [HN.out]; rintro e w' ⟨rfl, rfl⟩)
    | (go_at_call 62; (with_reducible refine (hp.out _ LL.out.tab).mono ?_); rintro e w2 ⟨rb, rA, rn, rc, rs, rfl, hv, hm, hk, hi, hn, hbw2⟩; have BB := Lib.hid (below_go BB.out hbw2); have LL := Lib.hid (hL0.out.below BB.out); have FR := Lib.hid (FR.out.go hbw2); have FV := Lib.hid (FV.out.go hbw2); obtain ⟨⟨r0, r1, r2, r3, r4, r5, _⟩, rvb, f0, f1, f2, f3, f4⟩ := FR.out; obtain ⟨⟨o0, o1, o2, o3, o4, o5, _⟩, ovb, g0, g1, g2, g3, g4⟩ := FV.out; have hq := Lib.hid (hfin.out rb rA rn rc rs w2 hv hm.out hk.out hi.out); have XR := Lib.hid ((FR.out.away ovb (by omega) 1 (.bool rb)).away (ovb.set 1 rfl) (by omega) 2 (.slice rA rn rc)); have BB := Lib.hid ((BB.out.setCell (p := ⟨w.heap.size + 1, 1, none⟩) (Nat.le_succ _) (.bool rb)).setCell (p := ⟨w.heap.size + 1, 2, none⟩) (Nat.le_succ _) (.slice rA rn rc)); have LL := Lib.hid (hL0.out.below BB.out); have FV := Lib.hid (FV.out.put rb hv); have FR := XR; have HO := Lib.hid FV.out.1.ok; have HU := Lib.hid hq.out.1; have HT := Lib.hid (hS.out.trans hq.out.2.1.symm); have hn2 : rn ≤ 1099511627776 := (Nat.le_trans hn.out (by decide)))
    | (go_at_call 30; (with_reducible refine (text_at (SV.nat a.s rb rA rn rc rs) _ HO.out hn2 LL.out HU HT).mono ?_); rintro e w3 ⟨rfl, hbw3⟩; have BB := Lib.hid (below_go BB.out hbw3); have LL := Lib.hid (hL0.out.below BB.out); have FR := Lib.hid (FR.out.go hbw3); have FV := Lib.hid (FV.out.go hbw3); obtain ⟨⟨r0, r1, r2, r3, r4, r5, _⟩, rvb, f0, f1, f2, f3, f4⟩ := FR.out; obtain ⟨⟨o0, o1, o2, o3, o4, o5, _⟩, ovb, g0, g1, g2, g3, g4⟩ := FV.out))
  exact bodyPost_ret (v := .tuple #[(SV.nat a.s rb rA rn rc rs).v, .int .i64 0]) (by simp [results, Tryz.results31, go_sem, r0, r1, r2, r3, r4]) rfl
    (BK.mk' (SV.nat a.s rb rA rn rc rs) (FV.out.1.ok.set5 rvb _ _ _ _ _ _ _) (hq.out.2.2) (hn.out) (below_5 BB.out (Nat.le_refl _) _ _ _ _ _))
set_option maxRecDepth 100000 in
set_option maxHeartbeats 2000000 in
theorem parse_lev (a : SV) (S : ByteArray) (w w0 : World) (ha : a.ok w0) (hl : Lay w) (HM : Hid (a.may = 0)) (HN : Hid (natB a.s = false)) (HL : Hid (levB a.s = true)) (hS : Hid (S.data.toList = a.txt)) (hne : (S.toList == []) = false) :
    Calls Tryz.prog 31 #[.int .i64 a.s, .string S] w fun e w' => BK a w w' e := by
  have HKn := Lib.hid (may_named HM.out)
  have h2 := Lib.hid (twin (w := w) (s := a.s) _ rfl)
  have FR := Lib.hid h2.out.1
  have FV := Lib.hid h2.out.2.1
  have BB := Lib.hid h2.out.2.2
  have hL0 := Lib.hid hl
  have LL := Lib.hid (hl.below h2.out.2.2)
  have hlv := lev_of_may HM.out HN.out HL.out
  have h7 : topV a.s ≤ 7 := by unfold topV; split <;> decide
  have hd := hS.out
  unfold SV.txt at hd
  rw [HN.out, HL.out, if_neg Bool.false_ne_true, if_pos rfl] at hd
  have hp := Lib.hid (fun W => atoi_any S a.lv hlv.1 (by omega) hd W)
  have hfin := Lib.hid (show (SV.lev a.s a.lv).may = 0 ∧ (SV.lev a.s a.lv).txt = a.txt ∧ sameE (SV.lev a.s a.lv) a = true by
    have k1 : (SV.lev a.s a.lv).may = 0 := (may_canon (lev_ok a.s a.lv w) (lev_canon a.s a.lv)).trans (mayC_lev HKn.out HN.out HL.out hlv)
    refine ⟨k1, ?_, ?_⟩
    · unfold SV.txt; rw [show (SV.lev a.s a.lv).s = a.s from rfl, HN.out, HL.out]; rfl
    · refine same_at k1 HM.out rfl ?_
      unfold sameC
      rw [show (SV.lev a.s a.lv).con.s = a.s from rfl, HN.out, HL.out, if_neg Bool.false_ne_true, if_pos rfl]
      exact beq_self_eq_true _)
  clear hlv h7 hd ha hl h2
  obtain ⟨⟨r0, r1, r2, r3, r4, r5, _⟩, rvb, f0, f1, f2, f3, f4⟩ := FR.out
  obtain ⟨⟨o0, o1, o2, o3, o4, o5, _⟩, ovb, g0, g1, g2, g3, g4⟩ := FV.out
  go_enter Tryz.func31, Tryz.ntmps31
  go_wp2_with (first
    | (go_at_call 32; (with_reducible refine (known_any a.s _).mono ?_); rw [HKn.out]; rintro e w' ⟨rfl, rfl⟩)
    | (go_at_call 49; (with_reducible refine (isNat_any a.s _).mono ?_); rw [HN.out]; rintro e w' ⟨rfl, rfl⟩)
    | (go_at_call 51; (with_reducible refine (isLevel_any a.s _).mono ?_); rw [HL.out]; rintro e w' ⟨rfl, rfl⟩)
    | (go_at_call 63; (with_reducible refine (hp.out _).mono ?_); rintro e w2 ⟨rfl, hbw2⟩; have BB := Lib.hid (below_go BB.out hbw2); have LL := Lib.hid (hL0.out.below BB.out); have FR := Lib.hid (FR.out.go hbw2); have FV := Lib.hid (FV.out.go hbw2); obtain ⟨⟨r0, r1, r2, r3, r4, r5, _⟩, rvb, f0, f1, f2, f3, f4⟩ := FR.out; obtain ⟨⟨o0, o1, o2, o3, o4, o5, _⟩, ovb, g0, g1, g2, g3, g4⟩ := FV.out; have XR := Lib.hid (FR.out.away ovb (by omega) 3 (.int .i64 a.lv)); have BB := Lib.hid (BB.out.setCell (p := ⟨w.heap.size + 1, 3, none⟩) (Nat.le_succ _) (.int .i64 a.lv)); have LL := Lib.hid (hL0.out.below BB.out); have FV := Lib.hid (FV.out.lev a.lv); have FR := XR; have HO := Lib.hid FV.out.1.ok; have HU := Lib.hid hfin.out.1; have HT := Lib.hid (hS.out.trans hfin.out.2.1.symm); have hn2 : 0 ≤ 1099511627776 := (by decide))
    | (go_at_call 30; (with_reducible refine (text_at (SV.lev a.s a.lv) _ HO.out hn2 LL.out HU HT).mono ?_); rintro e w3 ⟨rfl, hbw3⟩; have BB := Lib.hid (below_go BB.out hbw3); have LL := Lib.hid (hL0.out.below BB.out); have FR := Lib.hid (FR.out.go hbw3); have FV := Lib.hid (FV.out.go hbw3); obtain ⟨⟨r0, r1, r2, r3, r4, r5, _⟩, rvb, f0, f1, f2, f3, f4⟩ := FR.out; obtain ⟨⟨o0, o1, o2, o3, o4, o5, _⟩, ovb, g0, g1, g2, g3, g4⟩ := FV.out))
  exact bodyPost_ret (v := .tuple #[(SV.lev a.s a.lv).v, .int .i64 0]) (by simp [results, Tryz.results31, go_sem, r0, r1, r2, r3, r4]) rfl
    (BK.mk' (SV.lev a.s a.lv) (FV.out.1.ok.set5 rvb _ _ _ _ _ _ _) (hfin.out.2.2) (Nat.zero_le _) (below_5 BB.out (Nat.le_refl _) _ _ _ _ _))
set_option maxRecDepth 100000 in
set_option maxHeartbeats 2000000 in
theorem parse_dbl (a : SV) (S : ByteArray) (w w0 : World) (ha : a.ok w0) (hl : Lay w) (HM : Hid (a.may = 0)) (HN : Hid (natB a.s = false)) (HL : Hid (levB a.s = false)) (hS : Hid (S.data.toList = a.txt)) (hne : (S.toList == []) = false) :
    Calls Tryz.prog 31 #[.int .i64 a.s, .string S] w fun e w' => BK a w w' e := by
  have HKn := Lib.hid (may_named HM.out)
  have h2 := Lib.hid (twin (w := w) (s := a.s) _ rfl)
  have FR := Lib.hid h2.out.1
  have FV := Lib.hid h2.out.2.1
  have BB := Lib.hid h2.out.2.2
  have hL0 := Lib.hid hl
  have LL := Lib.hid (hl.below h2.out.2.2)
  have hx := dbl_of_may HM.out HN.out HL.out
  have hI : dblM a.s ≤ INF := by unfold dblM; split <;> decide
  have hd := hS.out
  unfold SV.txt at hd
  rw [HN.out, HL.out, if_neg Bool.false_ne_true, if_neg Bool.false_ne_true] at hd
  have hp := Lib.hid (fun W h => fparse_any S a.x (by omega) hd W h)
  have hx64 : a.x < W64 := ha.2
  have hfin := Lib.hid (show (SV.dbl a.s a.x).may = 0 ∧ (SV.dbl a.s a.x).txt = a.txt ∧ sameE (SV.dbl a.s a.x) a = true by
    have k1 : (SV.dbl a.s a.x).may = 0 := (may_canon (dbl_ok a.s a.x w hx64) (dbl_canon a.s a.x)).trans (mayC_dbl HKn.out HN.out HL.out hx)
    refine ⟨k1, ?_, ?_⟩
    · unfold SV.txt; rw [show (SV.dbl a.s a.x).s = a.s from rfl, HN.out, HL.out]; rfl
    · refine same_at k1 HM.out rfl ?_
      unfold sameC
      rw [show (SV.dbl a.s a.x).con.s = a.s from rfl, HN.out, HL.out, if_neg Bool.false_ne_true, if_neg Bool.false_ne_true]
      exact same_rfl)
  clear hx hI hd ha hl h2
  obtain ⟨⟨r0, r1, r2, r3, r4, r5, _⟩, rvb, f0, f1, f2, f3, f4⟩ := FR.out
  obtain ⟨⟨o0, o1, o2, o3, o4, o5, _⟩, ovb, g0, g1, g2, g3, g4⟩ := FV.out
  go_enter Tryz.func31, Tryz.ntmps31
  go_wp2_with (first
    | (go_at_call 32; (with_reducible refine (known_any a.s _).mono ?_); rw [HKn.out]; rintro e w' ⟨rfl, rfl⟩)
    | (go_at_call 49; (with_reducible refine (isNat_any a.s _).mono ?_); rw [HN.out]; rintro e w' ⟨rfl, rfl⟩)
    | (go_at_call 51; (with_reducible refine (isLevel_any a.s _).mono ?_); rw [HL.out]; rintro e w' ⟨rfl, rfl⟩)
    | (go_at_call 64; (with_reducible refine (hp.out _ LL.out).mono ?_); rintro e w2 ⟨rfl, hbw2⟩; have BB := Lib.hid (below_go BB.out hbw2); have LL := Lib.hid (hL0.out.below BB.out); have FR := Lib.hid (FR.out.go hbw2); have FV := Lib.hid (FV.out.go hbw2); obtain ⟨⟨r0, r1, r2, r3, r4, r5, _⟩, rvb, f0, f1, f2, f3, f4⟩ := FR.out; obtain ⟨⟨o0, o1, o2, o3, o4, o5, _⟩, ovb, g0, g1, g2, g3, g4⟩ := FV.out; have XR := Lib.hid (FR.out.away ovb (by omega) 4 (.float .f64 a.x)); have BB := Lib.hid (BB.out.setCell (p := ⟨w.heap.size + 1, 4, none⟩) (Nat.le_succ _) (.float .f64 a.x)); have LL := Lib.hid (hL0.out.below BB.out); have FV := Lib.hid ((show Var w2 (w.heap.size + 1) (SV.dbl a.s 0) from FV.out).dbl a.x hx64); have FR := XR; have HO := Lib.hid FV.out.1.ok; have HU := Lib.hid hfin.out.1; have HT := Lib.hid (hS.out.trans hfin.out.2.1.symm); have hn2 : 0 ≤ 1099511627776 := (by decide))
    | (go_at_call 30; (with_reducible refine (text_at (SV.dbl a.s a.x) _ HO.out hn2 LL.out HU HT).mono ?_); rintro e w3 ⟨rfl, hbw3⟩; have BB := Lib.hid (below_go BB.out hbw3); have LL := Lib.hid (hL0.out.below BB.out); have FR := Lib.hid (FR.out.go hbw3); have FV := Lib.hid (FV.out.go hbw3); obtain ⟨⟨r0, r1, r2, r3, r4, r5, _⟩, rvb, f0, f1, f2, f3, f4⟩ := FR.out; obtain ⟨⟨o0, o1, o2, o3, o4, o5, _⟩, ovb, g0, g1, g2, g3, g4⟩ := FV.out))
  exact bodyPost_ret (v := .tuple #[(SV.dbl a.s a.x).v, .int .i64 0]) (by simp [results, Tryz.results31, go_sem, r0, r1, r2, r3, r4]) rfl
    (BK.mk' (SV.dbl a.s a.x) (FV.out.1.ok.set5 rvb _ _ _ _ _ _ _) (hfin.out.2.2) (Nat.zero_le _) (below_5 BB.out (Nat.le_refl _) _ _ _ _ _))
theorem parse_sv (a : SV) (S : ByteArray) (w w0 : World) (ha : a.ok w0) (hl : Lay w) (hn : a.n ≤ 60) (HM : Hid (a.may = 0)) (hS : Hid (S.data.toList = a.txt)) (hne : (S.toList == []) = false) :
    Calls Tryz.prog 31 #[.int .i64 a.s, .string S] w fun e w' => BK a w w' e := by
  cases h1 : natB a.s
  · cases h2 : levB a.s
    · exact parse_dbl a S w w0 ha hl HM (Lib.hid h1) (Lib.hid h2) hS hne
    · exact parse_lev a S w w0 ha hl HM (Lib.hid h1) (Lib.hid h2) hS hne
  · exact parse_nat a S w w0 ha hl HM (Lib.hid h1) hn hS hne
end Go.Proofs.YtdkmmnehlmaebaaGreatDoor.Se
