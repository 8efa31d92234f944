
/- The walks of the document's 'nullable', 'Nullable'. Condition: the path can be read; it is asked. -/
import Derived.Test.YtpaehicfndkliaaGreatDoorDl
import Derived.Test.YtpaehicfndkliaaGreatDoorGc
import Derived.Test.YtpaehicfndkliaaGreatDoorHb
namespace Go.Proofs.YtpaehicfndkliaaGreatDoor.De
open Go.RowKit Go.Lib Na Go.PN Pa

/-- What is known of the paths that are asked. -/
def Kn : Fo → Prop
  | .nil => True
  | .cons k _ d _ _ r => ((1 ≤ k ∧ k ≤ 9) ∧ (k = 2 ∨ k = 3 → d.len = 0) ∧ (k = 7 ∨ k = 9 → d.len = 1)) ∧ Kn d ∧ Kn r
theorem Kn.app {f g : Fo} (h : Kn (f.app g)) : Kn g := by
  induction f with
  | nil => exact h
  | cons k l d mn mx r _ ih => exact ih h.2.2
theorem Kn.val {f : Fo} (h : Val f) : Kn f := by
  induction f with
  | nil => trivial
  | cons k l d mn mx r ih1 ih2 =>
    obtain ⟨h1, h2, h3⟩ := h.cons
    obtain ⟨a1, a2, a3, a4, a5, a6⟩ := one_zero h1
    exact ⟨⟨a1, fun e => a2 (by omega), fun e => a4 (by omega)⟩, ih1 h2, ih2 h3⟩
theorem Kn.may {f : Fo} {at_ : Int} (h : mayL f at_ = true) : Kn f := by
  induction f generalizing at_ with
  | nil => trivial
  | cons k l d mn mx r ih1 ih2 =>
    rw [mayL, Bool.and_eq_true, Bool.and_eq_true, Bool.and_eq_true] at h
    obtain ⟨⟨⟨h1, _⟩, h2⟩, h3⟩ := h
    refine ⟨?_, ih1 h2, ih2 h3⟩
    unfold kindN at h1
    by_cases a : k = 1 ∨ k = 2 ∨ k = 3
    · rw [if_pos a] at h1
      exact ⟨by omega, fun _ => of_decide_eq_true h1, fun e => by omega⟩
    · rw [if_neg a] at h1
      by_cases b : k = 4 ∨ k = 5
      · exact ⟨by omega, fun e => by omega, fun e => by omega⟩
      · rw [if_neg b] at h1
        by_cases c : k = 6
        · exact ⟨by omega, fun e => by omega, fun e => by omega⟩
        · rw [if_neg c] at h1; cases h1
theorem Kn.known {k : Int} {l : ByteArray} {d : Fo} {mn mx : Int} (h : knownB k l d mn mx = true) : Kn (.cons k l d mn mx .nil) := by
  unfold knownB at h
  rw [Bool.or_eq_true] at h
  rcases h with h | h
  · exact Kn.val (check_zero (of_decide_eq_true h)).1
  · exact Kn.may h
abbrev NuR (n : Nat) : Prop := ∀ (a : Nd) (X : List Nat) (w : World), a.kids.sz < n → a.ok w X → Kn (a.fo .nil) → Calls Tryz.prog 50 #[a.v] w fun e w' => e = .returned (.bool (nuB a.k a.kids a.mn)) ∧ Below w.heap.size w w' 
set_option maxRecDepth 100000 in
set_option maxHeartbeats 8000000 in
theorem rnu_1 (n : Nat) (ih : NuR n) (l : ByteArray) (A : Option Addr) (c : Nat) (mn mx : Int) (kids : Fo) (w : World) (X : List Nat) (hs : kids.sz ≤ n) (hc : kids.len ≤ c) (hc2 : c ≤ 9223372036854775807) (hat : At w X kids A) (hkn : Kn kids) (hk2 : True) :
    Calls Tryz.prog 50 #[.agg #[.int .i64 1, .string l, .slice A kids.len c, .int .i64 mn, .int .i64 mx]] w fun e w' => e = .returned (.bool (nuB 1 kids mn)) ∧ Below w.heap.size w w' := by
  have HB := Lib.hid ((Below.refl _ w).alloc (Nat.le_refl _) (obj5 1 l A kids.len c mn mx))
  have HT := Lib.hid (show nuB 1 kids mn = true from rfl)
  generalize nuB 1 kids mn = RB at *
  clear ih hat hkn hk2
  go_enter Tryz.func50, Tryz.ntmps50
  go_wp2_with fail
  go_ret
  exact ⟨by rw [HT.out]; rfl, HB.out⟩
set_option maxRecDepth 100000 in
set_option maxHeartbeats 8000000 in
theorem rnu_6 (n : Nat) (ih : NuR n) (l : ByteArray) (A : Option Addr) (c : Nat) (mn mx : Int) (kids : Fo) (w : World) (X : List Nat) (hs : kids.sz ≤ n) (hc : kids.len ≤ c) (hc2 : c ≤ 9223372036854775807) (hat : At w X kids A) (hkn : Kn kids) (hk2 : True) :
    Calls Tryz.prog 50 #[.agg #[.int .i64 6, .string l, .slice A kids.len c, .int .i64 mn, .int .i64 mx]] w fun e w' => e = .returned (.bool (nuB 6 kids mn)) ∧ Below w.heap.size w w' := by
  have HB := Lib.hid ((Below.refl _ w).alloc (Nat.le_refl _) (obj5 6 l A kids.len c mn mx))
  have HT := Lib.hid (show nuB 6 kids mn = true from rfl)
  generalize nuB 6 kids mn = RB at *
  clear ih hat hkn hk2
  go_enter Tryz.func50, Tryz.ntmps50
  go_wp2_with fail
  go_ret
  exact ⟨by rw [HT.out]; rfl, HB.out⟩
set_option maxRecDepth 100000 in
set_option maxHeartbeats 8000000 in
theorem rnu_8 (n : Nat) (ih : NuR n) (l : ByteArray) (A : Option Addr) (c : Nat) (mn mx : Int) (kids : Fo) (w : World) (X : List Nat) (hs : kids.sz ≤ n) (hc : kids.len ≤ c) (hc2 : c ≤ 9223372036854775807) (hat : At w X kids A) (hkn : Kn kids) (hk2 : True) :
    Calls Tryz.prog 50 #[.agg #[.int .i64 8, .string l, .slice A kids.len c, .int .i64 mn, .int .i64 mx]] w fun e w' => e = .returned (.bool (nuB 8 kids mn)) ∧ Below w.heap.size w w' := by
  have HB := Lib.hid ((Below.refl _ w).alloc (Nat.le_refl _) (obj5 8 l A kids.len c mn mx))
  have HT := Lib.hid (show nuB 8 kids mn = true from rfl)
  generalize nuB 8 kids mn = RB at *
  clear ih hat hkn hk2
  go_enter Tryz.func50, Tryz.ntmps50
  go_wp2_with fail
  go_ret
  exact ⟨by rw [HT.out]; rfl, HB.out⟩
set_option maxRecDepth 100000 in
set_option maxHeartbeats 8000000 in
theorem rnu_2 (n : Nat) (ih : NuR n) (l : ByteArray) (A : Option Addr) (c : Nat) (mn mx : Int) (kids : Fo) (w : World) (X : List Nat) (hs : kids.sz ≤ n) (hc : kids.len ≤ c) (hc2 : c ≤ 9223372036854775807) (hat : At w X kids A) (hkn : Kn kids) (hk2 : kids.len = 0) :
    Calls Tryz.prog 50 #[.agg #[.int .i64 2, .string l, .slice A kids.len c, .int .i64 mn, .int .i64 mx]] w fun e w' => e = .returned (.bool (nuB 2 kids mn)) ∧ Below w.heap.size w w' := by
  have HB := Lib.hid ((Below.refl _ w).alloc (Nat.le_refl _) (obj5 2 l A kids.len c mn mx))
  have HT := Lib.hid (show nuB 2 kids mn = false by rw [nil_of hk2]; rfl)
  generalize nuB 2 kids mn = RB at *
  clear ih hat hkn hk2
  go_enter Tryz.func50, Tryz.ntmps50
  go_wp2_with fail
  go_ret
  exact ⟨by rw [HT.out]; rfl, HB.out⟩
set_option maxRecDepth 100000 in
set_option maxHeartbeats 8000000 in
theorem rnu_3 (n : Nat) (ih : NuR n) (l : ByteArray) (A : Option Addr) (c : Nat) (mn mx : Int) (kids : Fo) (w : World) (X : List Nat) (hs : kids.sz ≤ n) (hc : kids.len ≤ c) (hc2 : c ≤ 9223372036854775807) (hat : At w X kids A) (hkn : Kn kids) (hk2 : kids.len = 0) :
    Calls Tryz.prog 50 #[.agg #[.int .i64 3, .string l, .slice A kids.len c, .int .i64 mn, .int .i64 mx]] w fun e w' => e = .returned (.bool (nuB 3 kids mn)) ∧ Below w.heap.size w w' := by
  have HB := Lib.hid ((Below.refl _ w).alloc (Nat.le_refl _) (obj5 3 l A kids.len c mn mx))
  have HT := Lib.hid (show nuB 3 kids mn = false by rw [nil_of hk2]; rfl)
  generalize nuB 3 kids mn = RB at *
  clear ih hat hkn hk2
  go_enter Tryz.func50, Tryz.ntmps50
  go_wp2_with fail
  go_ret
  exact ⟨by rw [HT.out]; rfl, HB.out⟩
set_option maxRecDepth 100000 in
set_option maxHeartbeats 8000000 in
theorem rnu_4 (n : Nat) (ih : NuR n) (l : ByteArray) (A : Option Addr) (c : Nat) (mn mx : Int) (kids : Fo) (w : World) (X : List Nat) (hs : kids.sz ≤ n) (hc : kids.len ≤ c) (hc2 : c ≤ 9223372036854775807) (hat : At w X kids A) (hkn : Kn kids) (hk2 : True) :
    Calls Tryz.prog 50 #[.agg #[.int .i64 4, .string l, .slice A kids.len c, .int .i64 mn, .int .i64 mx]] w fun e w' => e = .returned (.bool (nuB 4 kids mn)) ∧ Below w.heap.size w w' := by
  have HB := Lib.hid ((Below.refl _ w).alloc (Nat.le_refl _) (obj5 4 l A kids.len c mn mx))
  have HDF := Lib.hid (show nuB 4 kids mn = (nuL kids).2 from rfl)
  generalize nuB 4 kids mn = RB at *
  have HN := Lib.hid hs
  have HA := Lib.hid hat
  have IH := Lib.hid ih
  have HK := Lib.hid hkn
  clear hat ih hs hkn hk2
  go_enter Tryz.func50, Tryz.ntmps50
  go_wp2_with fail
  go_loopw [3] (fun iv wr => ∃ (q : Nat) (dn r : Fo), Hid (kids = dn.app r) ∧ Hid (dn.len = q) ∧ iv = .int .i64 q ∧ Hid ((nuL r).2 = (nuL kids).2) ∧ Hid (Below (w.heap.size + 1) (w.alloc (obj5 4 l A kids.len c mn mx)) wr)) (fun iv _ => kids.len - (RowKit.intOf iv).toNat)
  case atStart => exact ⟨0, .nil, kids, Lib.hid rfl, Lib.hid rfl, rfl, Lib.hid rfl, Lib.hid (Below.refl _ _)⟩
  case round =>
    obtain ⟨q, dn, r, hk, hq, rfl, HM, HBr⟩ := hrel
    have hlen := Lib.hid (show kids.len = q + r.len by rw [hk.out, Fo.app_len, hq.out])
    have HB1 := Lib.hid (HB.out.trans (HBr.out.mono (by omega)))
    obtain ⟨hx0, hx1, hx2, hx3, hx4⟩ := box_cells _ _ _ _ _ _ _ HBr.out
    clear hx0 hx1 hx3 hx4
    have hws := Lib.hid (show w.heap.size + 1 ≤ wr.heap.size by have := HBr.out.size; simpa using this)
    cases r with
    | nil =>
      have hlt : ¬ (q : Int) < kids.len := by have := hlen.out; simp only [Fo.len] at this; omega
      have hlt2 : decide (q < kids.len) = false := decide_eq_false (by omega)
      have hE := Lib.hid (show RB = true by rw [HDF.out, ← HM.out]; rfl)
      go_wp2_with fail
      go_ret
      exact ⟨by rw [hE.out]; rfl, HB1.out⟩
    | cons k1 l1 d1 mn1 mx1 r1 =>
      have hlt : (q : Int) < kids.len := by have := hlen.out; simp only [Fo.len] at this; omega
      have hlt2 : decide (q < kids.len) = true := decide_eq_true (by omega)
      have hq0 : (0 : Int) ≤ q := by omega
      obtain ⟨b0, o0, hA0⟩ := Nd.first (a := ⟨0, l, A, c, mn, mx, kids⟩) HA.out hk.out
      simp only at hA0
      subst hA0
      have h3 := HA.out.below HB1.out
      rw [hk.out] at h3
      obtain ⟨K1, c1, hcel, hc3, hc4, hat1⟩ := h3.nth hq.out
      obtain ⟨e0, e1, e2, e3, e4⟩ := hcel
      have hsz : d1.sz < n := by
        have h5 := congrArg Fo.sz hk.out
        rw [Fo.app_sz] at h5
        have h6 := HN.out
        simp only [Fo.sz] at h5
        omega
      have hkn1 : Kn (.cons k1 l1 d1 mn1 mx1 .nil) := by
        have h5 := HK.out
        rw [hk.out] at h5
        have h6 := h5.app
        exact ⟨h6.1, h6.2.1, trivial⟩
      have HC := Lib.hid (IH.out ⟨k1, l1, K1, c1, mn1, mx1, d1⟩ X wr hsz ⟨hc3, hc4, hat1⟩ hkn1)
      unfold Nd.v at HC
      simp only at HC
      have HM1 := Lib.hid (show (nuL kids).2 = (nuB k1 d1 mn1 && (nuL r1).2) by rw [← HM.out]; rfl)
      have hkk := Lib.hid (show kids = (dn.app (.cons k1 l1 d1 mn1 mx1 .nil)).app r1 by rw [hk.out, Fo.app_assoc]; rfl)
      have hqq := Lib.hid (show (dn.app (.cons k1 l1 d1 mn1 mx1 .nil)).len = q + 1 by rw [Fo.app_len, hq.out]; rfl)
      generalize nuB k1 d1 mn1 = z at *
      clear hsz hat1 h3 hkn1
      have hz : z = false ∨ z = true := by cases z <;> simp
      rcases hz with rfl | rfl
      · have hE := Lib.hid (show RB = false by rw [HDF.out, HM1.out]; rfl)
        go_wp2_with (go_at_call 50; (with_reducible refine (HC.out).mono ?_); rintro e w2 ⟨rfl, hb2⟩; have HB2 := Lib.hid (HB1.out.trans (hb2.mono HB1.out.size)); clear hb2)
        go_ret
        exact ⟨by rw [hE.out]; rfl, HB2.out⟩
      · have hE := Lib.hid (show (nuL r1).2 = (nuL kids).2 by rw [HM1.out]; rfl)
        go_wp2_with (go_at_call 50; (with_reducible refine (HC.out).mono ?_); rintro e w2 ⟨rfl, hb2⟩; have HB2 := Lib.hid (HBr.out.trans (hb2.mono hws.out)); clear hb2)
        exact ⟨⟨q + 1, _, r1, hkk, hqq, by go_num, hE, HB2⟩, by simp [RowKit.intOf]; omega⟩
set_option maxRecDepth 100000 in
set_option maxHeartbeats 8000000 in
theorem rnu_5 (n : Nat) (ih : NuR n) (l : ByteArray) (A : Option Addr) (c : Nat) (mn mx : Int) (kids : Fo) (w : World) (X : List Nat) (hs : kids.sz ≤ n) (hc : kids.len ≤ c) (hc2 : c ≤ 9223372036854775807) (hat : At w X kids A) (hkn : Kn kids) (hk2 : True) :
    Calls Tryz.prog 50 #[.agg #[.int .i64 5, .string l, .slice A kids.len c, .int .i64 mn, .int .i64 mx]] w fun e w' => e = .returned (.bool (nuB 5 kids mn)) ∧ Below w.heap.size w w' := by
  have HB := Lib.hid ((Below.refl _ w).alloc (Nat.le_refl _) (obj5 5 l A kids.len c mn mx))
  have HDF := Lib.hid (show nuB 5 kids mn = (nuL kids).1 from rfl)
  generalize nuB 5 kids mn = RB at *
  have HN := Lib.hid hs
  have HA := Lib.hid hat
  have IH := Lib.hid ih
  have HK := Lib.hid hkn
  clear hat ih hs hkn hk2
  go_enter Tryz.func50, Tryz.ntmps50
  go_wp2_with fail
  go_loopw [4] (fun iv wr => ∃ (q : Nat) (dn r : Fo), Hid (kids = dn.app r) ∧ Hid (dn.len = q) ∧ iv = .int .i64 q ∧ Hid ((nuL r).1 = (nuL kids).1) ∧ Hid (Below (w.heap.size + 1) (w.alloc (obj5 5 l A kids.len c mn mx)) wr)) (fun iv _ => kids.len - (RowKit.intOf iv).toNat)
  case atStart => exact ⟨0, .nil, kids, Lib.hid rfl, Lib.hid rfl, rfl, Lib.hid rfl, Lib.hid (Below.refl _ _)⟩
  case round =>
    obtain ⟨q, dn, r, hk, hq, rfl, HM, HBr⟩ := hrel
    have hlen := Lib.hid (show kids.len = q + r.len by rw [hk.out, Fo.app_len, hq.out])
    have HB1 := Lib.hid (HB.out.trans (HBr.out.mono (by omega)))
    obtain ⟨hx0, hx1, hx2, hx3, hx4⟩ := box_cells _ _ _ _ _ _ _ HBr.out
    clear hx0 hx1 hx3 hx4
    have hws := Lib.hid (show w.heap.size + 1 ≤ wr.heap.size by have := HBr.out.size; simpa using this)
    cases r with
    | nil =>
      have hlt : ¬ (q : Int) < kids.len := by have := hlen.out; simp only [Fo.len] at this; omega
      have hlt2 : decide (q < kids.len) = false := decide_eq_false (by omega)
      have hE := Lib.hid (show RB = false by rw [HDF.out, ← HM.out]; rfl)
      go_wp2_with fail
      go_ret
      exact ⟨by rw [hE.out]; rfl, HB1.out⟩
    | cons k1 l1 d1 mn1 mx1 r1 =>
      have hlt : (q : Int) < kids.len := by have := hlen.out; simp only [Fo.len] at this; omega
      have hlt2 : decide (q < kids.len) = true := decide_eq_true (by omega)
      have hq0 : (0 : Int) ≤ q := by omega
      obtain ⟨b0, o0, hA0⟩ := Nd.first (a := ⟨0, l, A, c, mn, mx, kids⟩) HA.out hk.out
      simp only at hA0
      subst hA0
      have h3 := HA.out.below HB1.out
      rw [hk.out] at h3
      obtain ⟨K1, c1, hcel, hc3, hc4, hat1⟩ := h3.nth hq.out
      obtain ⟨e0, e1, e2, e3, e4⟩ := hcel
      have hsz : d1.sz < n := by
        have h5 := congrArg Fo.sz hk.out
        rw [Fo.app_sz] at h5
        have h6 := HN.out
        simp only [Fo.sz] at h5
        omega
      have hkn1 : Kn (.cons k1 l1 d1 mn1 mx1 .nil) := by
        have h5 := HK.out
        rw [hk.out] at h5
        have h6 := h5.app
        exact ⟨h6.1, h6.2.1, trivial⟩
      have HC := Lib.hid (IH.out ⟨k1, l1, K1, c1, mn1, mx1, d1⟩ X wr hsz ⟨hc3, hc4, hat1⟩ hkn1)
      unfold Nd.v at HC
      simp only at HC
      have HM1 := Lib.hid (show (nuL kids).1 = (nuB k1 d1 mn1 || (nuL r1).1) by rw [← HM.out]; rfl)
      have hkk := Lib.hid (show kids = (dn.app (.cons k1 l1 d1 mn1 mx1 .nil)).app r1 by rw [hk.out, Fo.app_assoc]; rfl)
      have hqq := Lib.hid (show (dn.app (.cons k1 l1 d1 mn1 mx1 .nil)).len = q + 1 by rw [Fo.app_len, hq.out]; rfl)
      generalize nuB k1 d1 mn1 = z at *
      clear hsz hat1 h3 hkn1
      have hz : z = true ∨ z = false := by cases z <;> simp
      rcases hz with rfl | rfl
      · have hE := Lib.hid (show RB = true by rw [HDF.out, HM1.out]; rfl)
        go_wp2_with (go_at_call 50; (with_reducible refine (HC.out).mono ?_); rintro e w2 ⟨rfl, hb2⟩; have HB2 := Lib.hid (HB1.out.trans (hb2.mono HB1.out.size)); clear hb2)
        go_ret
        exact ⟨by rw [hE.out]; rfl, HB2.out⟩
      · have hE := Lib.hid (show (nuL r1).1 = (nuL kids).1 by rw [HM1.out]; rfl)
        go_wp2_with (go_at_call 50; (with_reducible refine (HC.out).mono ?_); rintro e w2 ⟨rfl, hb2⟩; have HB2 := Lib.hid (HBr.out.trans (hb2.mono hws.out)); clear hb2)
        exact ⟨⟨q + 1, _, r1, hkk, hqq, by go_num, hE, HB2⟩, by simp [RowKit.intOf]; omega⟩
set_option maxRecDepth 100000 in
set_option maxHeartbeats 8000000 in
theorem rnu_7 (n : Nat) (ih : NuR n) (l : ByteArray) (A : Option Addr) (c : Nat) (mn mx : Int) (kids : Fo) (w : World) (X : List Nat) (hs : kids.sz ≤ n) (hc : kids.len ≤ c) (hc2 : c ≤ 9223372036854775807) (hat : At w X kids A) (hkn : Kn kids) (hk2 : kids.len = 1) :
    Calls Tryz.prog 50 #[.agg #[.int .i64 7, .string l, .slice A kids.len c, .int .i64 mn, .int .i64 mx]] w fun e w' => e = .returned (.bool (nuB 7 kids mn)) ∧ Below w.heap.size w w' := by
  have HB := Lib.hid ((Below.refl _ w).alloc (Nat.le_refl _) (obj5 7 l A kids.len c mn mx))
  obtain ⟨k1, l1, d1, mn1, mx1, hd⟩ := one_of hk2
  subst hd
  obtain ⟨b0, o0, rfl⟩ := at_shape hat (by rw [hk2]; exact Nat.le_refl _)
  obtain ⟨b, o, K1, c1, ea, _, hcel, hc3, hc4, hat1, _⟩ := hat
  injection ea with ea
  injection ea with ea1 ea2
  subst ea1 ea2
  obtain ⟨e0, e1, e2, e3, e4⟩ := hcel
  have hb0 : b0 < w.heap.size := cell_lt e0
  have HC := Lib.hid (ih ⟨k1, l1, K1, c1, mn1, mx1, d1⟩ X (w.alloc (obj5 7 l (some ⟨b0, o0, none⟩) (Fo.cons k1 l1 d1 mn1 mx1 .nil).len c mn mx)) (by simp only [Fo.sz] at hs ⊢; omega) (Nd.ok.al ⟨hc3, hc4, hat1⟩ _) hkn)
  unfold Nd.v at HC
  simp only at HC
  have HE := Lib.hid (show nuB 7 (Fo.cons k1 l1 d1 mn1 mx1 .nil) mn = nuB k1 d1 mn1 by
    have e : (nuL (.cons k1 l1 d1 mn1 mx1 .nil)).1 = nuB k1 d1 mn1 := by rw [nuL_one]; rfl
    rw [← e]; rfl)
  generalize nuB 7 (Fo.cons k1 l1 d1 mn1 mx1 .nil) mn = RB at *
  generalize nuB k1 d1 mn1 = VB at *
  simp only [Fo.len] at *
  clear ih hat1 hkn hk2 hs
  go_enter Tryz.func50, Tryz.ntmps50
  go_wp2_with (go_at_call 50; (with_reducible refine (HC.out).mono ?_); rintro e w2 ⟨rfl, hb2⟩; have HB2 := Lib.hid (HB.out.trans (hb2.mono HB.out.size)); clear hb2)
  go_ret
  exact ⟨by rw [HE.out]; rfl, HB2.out⟩
set_option maxRecDepth 100000 in
set_option maxHeartbeats 8000000 in
theorem rnu_9 (n : Nat) (ih : NuR n) (l : ByteArray) (A : Option Addr) (c : Nat) (mn mx : Int) (kids : Fo) (w : World) (X : List Nat) (hs : kids.sz ≤ n) (hc : kids.len ≤ c) (hc2 : c ≤ 9223372036854775807) (hat : At w X kids A) (hkn : Kn kids) (hk2 : kids.len = 1) :
    Calls Tryz.prog 50 #[.agg #[.int .i64 9, .string l, .slice A kids.len c, .int .i64 mn, .int .i64 mx]] w fun e w' => e = .returned (.bool (nuB 9 kids mn)) ∧ Below w.heap.size w w' := by
  have HB := Lib.hid ((Below.refl _ w).alloc (Nat.le_refl _) (obj5 9 l A kids.len c mn mx))
  obtain ⟨k1, l1, d1, mn1, mx1, hd⟩ := one_of hk2
  subst hd
  obtain ⟨b0, o0, rfl⟩ := at_shape hat (by rw [hk2]; exact Nat.le_refl _)
  obtain ⟨b, o, K1, c1, ea, _, hcel, hc3, hc4, hat1, _⟩ := hat
  injection ea with ea
  injection ea with ea1 ea2
  subst ea1 ea2
  obtain ⟨e0, e1, e2, e3, e4⟩ := hcel
  have hb0 : b0 < w.heap.size := cell_lt e0
  have HC := Lib.hid (ih ⟨k1, l1, K1, c1, mn1, mx1, d1⟩ X (w.alloc (obj5 9 l (some ⟨b0, o0, none⟩) (Fo.cons k1 l1 d1 mn1 mx1 .nil).len c mn mx)) (by simp only [Fo.sz] at hs ⊢; omega) (Nd.ok.al ⟨hc3, hc4, hat1⟩ _) hkn)
  unfold Nd.v at HC
  simp only at HC
  have HE := Lib.hid (show nuB 9 (Fo.cons k1 l1 d1 mn1 mx1 .nil) mn = (decide (mn = 0) || nuB k1 d1 mn1) by
    have e : (nuL (.cons k1 l1 d1 mn1 mx1 .nil)).1 = nuB k1 d1 mn1 := by rw [nuL_one]; rfl
    rw [← e]; rfl)
  generalize nuB 9 (Fo.cons k1 l1 d1 mn1 mx1 .nil) mn = RB at *
  generalize nuB k1 d1 mn1 = VB at *
  simp only [Fo.len] at *
  clear ih hat1 hkn hk2 hs
  by_cases hm : mn = 0
  · subst hm
    have HT := Lib.hid (show RB = true by rw [HE.out]; rfl)
    clear HE
    go_enter Tryz.func50, Tryz.ntmps50
    go_wp2_with fail
    go_ret
    exact ⟨by rw [HT.out]; rfl, HB.out⟩
  · have tm : (mn == 0) = false := by rw [beq_eq_false_iff_ne]; exact hm
    have HT := Lib.hid (show RB = VB by rw [HE.out, decide_eq_false hm]; rfl)
    clear HE hm
    go_enter Tryz.func50, Tryz.ntmps50
    go_wp2_with (go_at_call 50; (with_reducible refine (HC.out).mono ?_); rintro e w2 ⟨rfl, hb2⟩; have HB2 := Lib.hid (HB.out.trans (hb2.mono HB.out.size)); clear hb2)
    go_ret
    exact ⟨by rw [HT.out]; rfl, HB2.out⟩
theorem rnu_n (n : Nat) : NuR n := by
  induction n with
  | zero => intro a X w hn; omega
  | succ n ih =>
    intro a X w hn hok hkn
    obtain ⟨k, l, A, c, mn, mx, kids⟩ := a
    obtain ⟨hc, hc2, hat⟩ := hok
    have hs : kids.sz ≤ n := Nat.le_of_lt_succ hn
    obtain ⟨⟨hk, h2, h7⟩, hkd, _⟩ := hkn
    unfold Nd.v
    simp only at *
    rcases (show k = 1 ∨ k = 2 ∨ k = 3 ∨ k = 4 ∨ k = 5 ∨ k = 6 ∨ k = 7 ∨ k = 8 ∨ k = 9 by omega) with rfl | rfl | rfl | rfl | rfl | rfl | rfl | rfl | rfl
    · exact rnu_1 n ih l A c mn mx kids w X hs hc hc2 hat hkd trivial
    · exact rnu_2 n ih l A c mn mx kids w X hs hc hc2 hat hkd (h2 (Or.inl rfl))
    · exact rnu_3 n ih l A c mn mx kids w X hs hc hc2 hat hkd (h2 (Or.inr rfl))
    · exact rnu_4 n ih l A c mn mx kids w X hs hc hc2 hat hkd trivial
    · exact rnu_5 n ih l A c mn mx kids w X hs hc hc2 hat hkd trivial
    · exact rnu_6 n ih l A c mn mx kids w X hs hc hc2 hat hkd trivial
    · exact rnu_7 n ih l A c mn mx kids w X hs hc hc2 hat hkd (h7 (Or.inl rfl))
    · exact rnu_8 n ih l A c mn mx kids w X hs hc hc2 hat hkd trivial
    · exact rnu_9 n ih l A c mn mx kids w X hs hc hc2 hat hkd (h7 (Or.inr rfl))
set_option maxRecDepth 100000 in
set_option maxHeartbeats 4000000 in
/-- The document's 'Nullable' is the program's. -/
theorem rNullable_any (a : Nd) (X : List Nat) (w : World) (h : a.ok w X) (hlb : Lb (a.fo .nil)) (hs : a.kids.sz ≤ 1000000) : Calls Tryz.prog 22 #[a.v] w fun e w' => e = .returned (.bool (NullB a.k a.l a.kids a.mn a.mx)) ∧ Below w.heap.size w w' := by
  have HM := Lib.hid (fun (w1 : World) (hb1 : Below w.heap.size w w1) => rMay_any a X w1 (h.below hb1) hlb hs)
  have HN := Lib.hid (fun (hk : knownB a.k a.l a.kids a.mn a.mx = true) (w1 : World) (hb1 : Below w.heap.size w w1) => rnu_n (a.kids.sz + 1) a X w1 (Nat.lt_succ_self _) (h.below hb1) (Kn.known hk))
  have HB := Lib.hid ((Below.refl _ w).alloc (Nat.le_refl _) (obj5 a.k a.l a.A a.kids.len a.c a.mn a.mx))
  have HY := Lib.hid (Bx.new w (.int .i64 a.k) (.string a.l) (.slice a.A a.kids.len a.c) (.int .i64 a.mn) (.int .i64 a.mx) 24)
  have HE := Lib.hid (show NullB a.k a.l a.kids a.mn a.mx = (knownB a.k a.l a.kids a.mn a.mx && nuB a.k a.kids a.mn) from rfl)
  unfold Nd.v at *
  clear h hlb hs
  generalize NullB a.k a.l a.kids a.mn a.mx = R at *
  generalize knownB a.k a.l a.kids a.mn a.mx = K at *
  generalize nuB a.k a.kids a.mn = V at *
  cases K
  · have HR := Lib.hid (show R = false from HE.out)
    clear HE HN
    go_enter Tryz.func22, Tryz.ntmps22
    go_wp2_with (go_at_call 49; (with_reducible refine (HM.out _ HB.out).mono ?_); rintro e w2 ⟨rfl, hb2⟩; have HB2 := Lib.hid (bt HB.out hb2 HB.out.size); clear hb2)
    go_ret
    exact ⟨by rw [HR.out]; rfl, HB2.out⟩
  · have HR := Lib.hid (show R = V from HE.out)
    have HN1 := Lib.hid (HN.out rfl)
    clear HE HN
    go_enter Tryz.func22, Tryz.ntmps22
    go_wp2_with (first
      | (go_at_call 49; (with_reducible refine (HM.out _ HB.out).mono ?_); rintro e w2 ⟨rfl, hb2⟩; have HB2 := Lib.hid (bt HB.out hb2 HB.out.size); obtain ⟨⟨x0, x1, x2, x3, x4⟩, y0, y1, y2, y3, y4⟩ := bx_all (HY.out.below hb2); clear hb2)
      | (go_at_call 50; (with_reducible refine (HN1.out _ HB2.out).mono ?_); rintro e w3 ⟨rfl, hb3⟩; have HB3 := Lib.hid (bt HB2.out hb3 HB2.out.size); clear hb3))
    go_ret
    exact ⟨by rw [HR.out]; rfl, HB3.out⟩
end Go.Proofs.YtpaehicfndkliaaGreatDoor.De
