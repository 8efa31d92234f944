import Derived.Test.YtpaehicfndkliaaGreatDoorPe

/- The walk of 'all'. Condition: the tree can be read. -/
namespace Go.Proofs.YtpaehicfndkliaaGreatDoor.Pa
open Go.RowKit Go.Lib Na Go.PN

theorem oneE_rng (k : Int) (l : ByteArray) (d : Fo) (mn mx : Int) : 0 ≤ oneE k l d mn mx ∧ oneE k l d mn mx ≤ 2 := by
  unfold oneE
  repeat' split
  all_goals omega
theorem alL_rng (f : Fo) (e : Int) (h : 0 ≤ e ∧ e ≤ 2) : 0 ≤ alL f e ∧ alL f e ≤ 2 := by
  induction f generalizing e with
  | nil => exact h
  | cons k l d mn mx r ih1 ih2 =>
    rw [alL_cons]
    split
    · exact ih2 _ (ih1 _ (oneE_rng _ _ _ _ _))
    · exact h
theorem allE_rng (k : Int) (l : ByteArray) (d : Fo) (mn mx : Int) : 0 ≤ allE k l d mn mx ∧ allE k l d mn mx ≤ 2 := alL_rng _ _ (oneE_rng _ _ _ _ _)
set_option maxRecDepth 100000 in
set_option maxHeartbeats 4000000 in
theorem all_n (n : Nat) : ∀ (a : Nd) (X : List Nat) (w : World), a.kids.sz < n → a.ok w X →
    Calls Tryz.prog 55 #[a.v] w fun e w' => e = .returned (.int .i64 (allE a.k a.l a.kids a.mn a.mx)) ∧ Below w.heap.size w w' := by
  induction n with
  | zero => intro a X w hn; omega
  | succ n ih =>
    intro a X w hn hok
    have HO := Lib.hid (fun (w1 : World) (hb1 : Below w.heap.size w w1) => one_any a X w1 (hok.below hb1))
    obtain ⟨k, l, A, c, mn, mx, kids⟩ := a
    obtain ⟨hc, hc2, hat⟩ := hok
    unfold Nd.v at HO ⊢
    simp only at hn hc hc2 hat HO ⊢
    have HW := Lib.hid ((Below.refl _ w).alloc (Nat.le_refl _) (.cells #[.int .i64 k, .string l, .slice A kids.len c, .int .i64 mn, .int .i64 mx] 24))
    have HN := Lib.hid hn
    have HA := Lib.hid hat
    have IH := Lib.hid ih
    have HE := Lib.hid (show allE k l kids mn mx = alL kids (oneE k l kids mn mx) from rfl)
    have hrg := oneE_rng k l kids mn mx
    generalize oneE k l kids mn mx = E at *
    clear hat hn ih
    go_enter Tryz.func55, Tryz.ntmps55
    go_wp2_with (go_at_call 84; (with_reducible refine (HO.out _ HW.out).mono ?_); rintro e w1 ⟨rfl, hb1⟩)
    go_loopw [3, 4] (fun ev iv wr => ∃ (q : Nat) (dn r : Fo) (e : Int), Hid (kids = dn.app r) ∧ Hid (dn.len = q) ∧ iv = .int .i64 q ∧ ev = .int .i64 e ∧ 0 ≤ e ∧ e ≤ 2 ∧ Hid (alL r e = alL kids E) ∧ Below (w.heap.size + 1) (w.alloc (.cells #[.int .i64 k, .string l, .slice A kids.len c, .int .i64 mn, .int .i64 mx] 24)) wr) (fun _ iv _ => kids.len - (RowKit.intOf iv).toNat)
    case atStart => exact ⟨0, .nil, kids, E, Lib.hid rfl, Lib.hid rfl, rfl, rfl, hrg.1, hrg.2, Lib.hid rfl, hb1.mono (by simp)⟩
    case round =>
      obtain ⟨q, dn, r, e, hk, hq, rfl, rfl, ho1, ho2, hlp, hb⟩ := hrel
      have hlen := Lib.hid (show kids.len = q + r.len by rw [hk.out, Fo.app_len, hq.out])
      have hb0 := box_below hb
      obtain ⟨hx0, hx1, hx2, hx3, hx4⟩ := box_cells _ _ _ _ _ _ _ hb
      clear hx0 hx1 hx3 hx4
      cases r with
      | nil =>
        have hlt : ¬ (q : Int) < kids.len := by have := hlen.out; simp only [Fo.len] at this; omega
        have hE := Lib.hid (show alL kids E = e from hlp.out.symm)
        go_wp2_with fail
        go_ret
        exact ⟨by rw [HE.out, hE.out]; rfl, hb0⟩
      | cons k1 l1 d1 mn1 mx1 r1 =>
        have hlt : (q : Int) < kids.len := by have := hlen.out; simp only [Fo.len] at this; omega
        cases te : e == 0
        · have hE := Lib.hid (show alL kids E = e by rw [← hlp.out, alL_ne _ _ (by simpa using te)])
          go_wp2_with fail
          go_ret
          exact ⟨by rw [HE.out, hE.out]; rfl, hb0⟩
        · have he0 : e = 0 := by simpa using te
          have hq0 : (0 : Int) ≤ q := by omega
          obtain ⟨b0, o0, hA0⟩ := Nd.first (a := ⟨0, l, A, c, mn, mx, kids⟩) HA.out hk.out
          simp only at hA0
          subst hA0
          have h3 := HA.out.below hb0
          rw [hk.out] at h3
          obtain ⟨K1, c1, hcel, hc3, hc4, hat1⟩ := h3.nth hq.out
          have hcel1 := hcel.1
          have hcel2 := hcel.2.1
          have hcel3 := hcel.2.2.1
          have hcel4 := hcel.2.2.2.1
          have hcel5 := hcel.2.2.2.2
          have hsz : d1.sz < n := by
            have h5 := congrArg Fo.sz hk.out
            rw [Fo.app_sz] at h5
            have h6 := HN.out
            simp only [Fo.sz] at h5
            omega
          have HC := Lib.hid (fun (w1 : World) (hb1 : Below wr.heap.size wr w1) => IH.out ⟨k1, l1, K1, c1, mn1, mx1, d1⟩ X w1 hsz ⟨hc3, hc4, hat1.below hb1⟩)
          unfold Nd.v at HC
          simp only at HC
          have hl1 := hlp.out
          rw [alL_cons, if_pos he0] at hl1
          have hz := allE_rng k1 l1 d1 mn1 mx1
          generalize allE k1 l1 d1 mn1 mx1 = z at *
          have hE := Lib.hid hl1
          have hkk := Lib.hid (show kids = (dn.app (.cons k1 l1 d1 mn1 mx1 .nil)).app r1 by rw [hk.out, Fo.app_assoc]; rfl)
          have hqq := Lib.hid (show (dn.app (.cons k1 l1 d1 mn1 mx1 .nil)).len = q + 1 by rw [Fo.app_len, hq.out]; rfl)
          have hws := Lib.hid (show w.heap.size + 1 ≤ wr.heap.size by have := hb.size; simpa using this)
          clear hl1 hsz hat1 hcel h3 he0
          go_wp2_with (go_at_call 55; (with_reducible refine (HC.out _ (Below.refl _ _)).mono ?_); rintro e w2 ⟨rfl, hb2⟩)
          exact ⟨⟨q + 1, _, r1, z, hkk, hqq, by go_num, rfl, hz.1, hz.2, hE, hb.trans (hb2.mono hws.out)⟩, by simp [RowKit.intOf]; omega⟩
end Go.Proofs.YtpaehicfndkliaaGreatDoor.Pa


/- The walks of 'times', 'sizes', 'size', 'Check'. Condition: the tree can be read. -/
namespace Go.Proofs.YtpaehicfndkliaaGreatDoor.Pa
open Go.RowKit Go.Lib Na Go.PN

def timesI (n size : Int) : Int := if 0 < n ∧ (1099511627776 : Int) / n < size then (1099511627776 : Int) else max n 0 * size
theorem timesI_rng (n size : Int) (h : 0 ≤ size ∧ size ≤ (1099511627776 : Int)) : 0 ≤ timesI n size ∧ timesI n size ≤ (1099511627776 : Int) := by
  unfold timesI
  split
  · exact ⟨by decide, Int.le_refl _⟩
  · rename_i h2
    by_cases h0 : 0 < n
    · have h3 : size ≤ (1099511627776 : Int) / n := by omega
      rw [Int.max_eq_left (by omega)]
      refine ⟨Int.mul_nonneg (by omega) h.1, ?_⟩
      have h4 : n * ((1099511627776 : Int) / n) ≤ (1099511627776 : Int) := by
        exact Int.mul_ediv_self_le (by omega)
      exact Int.le_trans (Int.mul_le_mul_of_nonneg_left h3 (by omega)) h4
    · rw [Int.max_eq_right (by omega)]
      simp
theorem times_any (n size : Int) (w : World) (h : 0 ≤ size ∧ size ≤ (1099511627776 : Int)) (h1 : -9223372036854775808 ≤ n) (h2 : n ≤ 9223372036854775807) :
    Calls Tryz.prog 86 #[.int .i64 n, .int .i64 size] w fun e w' => e = .returned (.int .i64 (timesI n size)) ∧ w' = w := by
  have hr := timesI_rng n size h
  by_cases h0 : 0 < n
  · have t0 : decide (n > 0) = true := decide_eq_true h0
    have hn0 : ¬ n = 0 := by omega
    have hnn : ¬ n = -1 := by omega
    have hdv : 0 ≤ (1099511627776 : Int) / n ∧ (1099511627776 : Int) / n ≤ (1099511627776 : Int) := by
      exact ⟨Int.ediv_nonneg (by decide) (by omega), Int.ediv_le_self _ (by decide)⟩
    have hwq0 : wrap64 ((1099511627776 : Int) / n) = (1099511627776 : Int) / n := IntWalk.wrap64_in _ ⟨Int.le_trans (by decide) hdv.1, Int.le_trans hdv.2 (by decide)⟩
    by_cases h3 : (1099511627776 : Int) / n < size
    · have HE := Lib.hid (show timesI n size = (1099511627776 : Int) from if_pos ⟨h0, h3⟩)
      have t3 : decide (size > (1099511627776 : Int) / n) = true := decide_eq_true h3
      clear hr h
      clear hdv h3 hwq0
      go_enter Tryz.func86, Tryz.ntmps86
      go_wp2_with fail
      go_ret
      exact ⟨by rw [HE.out]; rfl, rfl⟩
    · have HE := Lib.hid (show timesI n size = n * size by unfold timesI; rw [if_neg (by omega), Int.max_eq_left (by omega)])
      have t3 : decide (size > (1099511627776 : Int) / n) = false := decide_eq_false h3
      rw [HE.out] at hr
      have hwm : wrap64 (n * size) = n * size := IntWalk.wrap64_in _ ⟨Int.le_trans (by decide) hr.1, Int.le_trans hr.2 (by decide)⟩
      have hlt : ¬ n < 0 := by omega
      clear hr h
      clear hdv h3 hwq0
      go_enter Tryz.func86, Tryz.ntmps86
      go_wp2_with fail
      go_ret
      exact ⟨by rw [HE.out]; rfl, rfl⟩
  · have t0 : decide (n > 0) = false := decide_eq_false h0
    have HE := Lib.hid (show timesI n size = 0 by unfold timesI; rw [if_neg (by omega), Int.max_eq_right (by omega)]; simp)
    clear hr
    rcases (show n = 0 ∨ n < 0 from by omega) with rfl | hlt
    · clear h0
      go_enter Tryz.func86, Tryz.ntmps86
      go_wp2_with fail
      go_ret
      exact ⟨by rw [HE.out]; simp, rfl⟩
    · go_enter Tryz.func86, Tryz.ntmps86
      go_wp2_with fail
      go_ret
      exact ⟨by rw [HE.out]; simp, rfl⟩

def turnsI (mn mx : Int) : Int := if mx = -1 then min (max mn 0) (1099511627776 : Int) + 1 else mx
/-- How great a path of this kind is whose kids' sizes make n. -/
def sizeI (k n mn mx : Int) : Int :=
  if k = 1 ∨ k = 2 ∨ k = 3 then 1
  else min (if k = 4 ∨ k = 5 ∨ k = 6 then n + 1 else if k = 7 then 2 * n + 2 else if k = 8 then n + 2 else if k = 9 then timesI (turnsI mn mx) n + 3 else 0) (1099511627776 : Int)
def szL : Fo → Int → Int
  | .nil, n => n
  | .cons k _ d mn mx r, n => szL r (min (n + sizeI k (szL d 0) mn mx) (1099511627776 : Int))
def sizeF (k : Int) (d : Fo) (mn mx : Int) : Int := sizeI k (szL d 0) mn mx
theorem szL_cons (k : Int) (l : ByteArray) (d : Fo) (mn mx : Int) (r : Fo) (n : Int) : szL (.cons k l d mn mx r) n = szL r (min (n + sizeF k d mn mx) (1099511627776 : Int)) := rfl
theorem sizeI_rng (k n mn mx : Int) (h : 0 ≤ n ∧ n ≤ (1099511627776 : Int)) : 0 ≤ sizeI k n mn mx ∧ sizeI k n mn mx ≤ (1099511627776 : Int) := by
  have := timesI_rng (turnsI mn mx) n h
  unfold sizeI
  generalize timesI (turnsI mn mx) n = t at *
  repeat' split
  all_goals omega
theorem szL_rng (f : Fo) (n : Int) (h : 0 ≤ n ∧ n ≤ (1099511627776 : Int)) : 0 ≤ szL f n ∧ szL f n ≤ (1099511627776 : Int) := by
  induction f generalizing n with
  | nil => exact h
  | cons k l d mn mx r ih1 ih2 =>
    rw [szL_cons]
    have h1 := sizeI_rng k (szL d 0) mn mx (ih1 0 (by decide))
    have h2 : sizeF k d mn mx = sizeI k (szL d 0) mn mx := rfl
    exact ih2 _ (by omega)
theorem sizeF_rng (k : Int) (d : Fo) (mn mx : Int) : 0 ≤ sizeF k d mn mx ∧ sizeF k d mn mx ≤ (1099511627776 : Int) := sizeI_rng _ _ _ _ (szL_rng _ _ (by decide))
/-- The bounds of a row's paths are numbers of the machine. -/
def Bd : Fo → Prop
  | .nil => True
  | .cons _ _ d mn mx r => (-9223372036854775808 ≤ mn ∧ mn ≤ 9223372036854775807) ∧ (-9223372036854775808 ≤ mx ∧ mx ≤ 9223372036854775807) ∧ Bd d ∧ Bd r
theorem Bd.app {f g : Fo} (h : Bd (f.app g)) : Bd g := by
  induction f with
  | nil => exact h
  | cons k l d mn mx r _ ih => exact ih h.2.2.2

set_option maxRecDepth 100000 in
set_option maxHeartbeats 4000000 in
theorem sizes_of (n : Nat) (IHS : ∀ (a : Nd) (X : List Nat) (w : World), a.kids.sz < n → a.ok w X → Bd (a.fo .nil) → Calls Tryz.prog 56 #[a.v] w fun e w' => e = .returned (.int .i64 (sizeF a.k a.kids a.mn a.mx)) ∧ Below w.heap.size w w')
    (kids : Fo) (A : Option Addr) (c : Nat) (X : List Nat) (w : World) (hn : kids.sz ≤ n) (hc : kids.len ≤ c) (hc2 : c ≤ 9223372036854775807) (hat : At w X kids A) (hbd : Bd kids) :
    Calls Tryz.prog 85 #[.slice A kids.len c] w fun e w' => e = .returned (.int .i64 (szL kids 0)) ∧ Below w.heap.size w w' := by
  have HN := Lib.hid hn
  have HA := Lib.hid hat
  have IH := Lib.hid IHS
  have HB := Lib.hid hbd
  have HB1 := Lib.hid (fun (w : World) o => (Below.refl _ w).alloc (Nat.le_refl _) o)
  clear hat hn IHS hbd
  go_enter Tryz.func85, Tryz.ntmps85
  go_wp2_with fail
  go_loopw [2, 7] (fun ev iv wr => ∃ (q : Nat) (dn r : Fo) (e : Int), Hid (kids = dn.app r) ∧ Hid (dn.len = q) ∧ iv = .int .i64 q ∧ ev = .int .i64 e ∧ 0 ≤ e ∧ e ≤ (1099511627776 : Int) ∧ Hid (szL r e = szL kids 0) ∧ Below w.heap.size w wr) (fun _ iv _ => kids.len - (RowKit.intOf iv).toNat)
  case atStart => exact ⟨0, .nil, kids, 0, Lib.hid rfl, Lib.hid rfl, rfl, rfl, by decide, by decide, Lib.hid rfl, Below.refl _ _⟩
  case round =>
    obtain ⟨q, dn, r, e, hk, hq, rfl, rfl, ho1, ho2, hlp, hb⟩ := hrel
    have hlen := Lib.hid (show kids.len = q + r.len by rw [hk.out, Fo.app_len, hq.out])
    cases r with
    | nil =>
      have hlt : ¬ (q : Int) < kids.len := by have := hlen.out; simp only [Fo.len] at this; omega
      have hE := Lib.hid (show szL kids 0 = e from hlp.out.symm)
      go_wp2_with fail
      go_ret
      exact ⟨by rw [hE.out]; rfl, hb⟩
    | cons k1 l1 d1 mn1 mx1 r1 =>
      have hlt : (q : Int) < kids.len := by have := hlen.out; simp only [Fo.len] at this; omega
      have hq0 : (0 : Int) ≤ q := by omega
      obtain ⟨b0, o0, hA0⟩ := Nd.first (a := ⟨0, ByteArray.empty, A, c, 0, 0, kids⟩) HA.out hk.out
      simp only at hA0
      subst hA0
      have h3 := HA.out.below hb
      rw [hk.out] at h3
      obtain ⟨K1, c1, hcel, hc3, hc4, hat1⟩ := h3.nth hq.out
      have hcel1 := hcel.1
      have hcel2 := hcel.2.1
      have hcel3 := hcel.2.2.1
      have hcel4 := hcel.2.2.2.1
      have hcel5 := hcel.2.2.2.2
      have hsz : d1.sz < n := by
        have h5 := congrArg Fo.sz hk.out
        rw [Fo.app_sz] at h5
        have h6 := HN.out
        simp only [Fo.sz] at h5
        omega
      have hbd1 : Bd (.cons k1 l1 d1 mn1 mx1 .nil) := by
        have h5 := HB.out
        rw [hk.out] at h5
        have h6 := Bd.app h5
        exact ⟨h6.1, h6.2.1, h6.2.2.1, trivial⟩
      have HC := Lib.hid (fun (w1 : World) (hb1 : Below wr.heap.size wr w1) => IH.out ⟨k1, l1, K1, c1, mn1, mx1, d1⟩ X w1 hsz ⟨hc3, hc4, hat1.below hb1⟩ hbd1)
      unfold Nd.v at HC
      simp only at HC
      have hl1 := hlp.out
      rw [szL_cons] at hl1
      obtain ⟨hz1, hz2⟩ := sizeF_rng k1 d1 mn1 mx1
      generalize sizeF k1 d1 mn1 mx1 = z at *
      have hkk := Lib.hid (show kids = (dn.app (.cons k1 l1 d1 mn1 mx1 .nil)).app r1 by rw [hk.out, Fo.app_assoc]; rfl)
      have hqq := Lib.hid (show (dn.app (.cons k1 l1 d1 mn1 mx1 .nil)).len = q + 1 by rw [Fo.app_len, hq.out]; rfl)
      have HL1 := Lib.hid hl1
      clear hl1 hsz hat1 hcel h3 hbd1
      by_cases hm : e + z > 1099511627776
      · have hE := Lib.hid (show szL r1 1099511627776 = szL kids 0 by rw [← HL1.out]; congr 1; omega)
        have hm2 : (1099511627776 : Int) < e + z := hm
        clear HL1
        go_wp2_with (go_at_call 56; (with_reducible refine (HC.out _ (HB1.out _ _)).mono ?_); rintro e w2 ⟨rfl, hb2⟩)
        exact ⟨⟨q + 1, _, r1, _, hkk, hqq, by go_num, rfl, by decide, by decide, hE, hb.trans (((HB1.out _ _).mono hb.size).trans (hb2.mono (Nat.le_trans hb.size (HB1.out _ _).size)))⟩, by simp [RowKit.intOf]; omega⟩
      · have hE := Lib.hid (show szL r1 (e + z) = szL kids 0 by rw [← HL1.out]; congr 1; omega)
        have hm2 : ¬ (1099511627776 : Int) < e + z := hm
        clear HL1
        go_wp2_with (go_at_call 56; (with_reducible refine (HC.out _ (HB1.out _ _)).mono ?_); rintro e w2 ⟨rfl, hb2⟩)
        exact ⟨⟨q + 1, _, r1, _, hkk, hqq, by go_num, rfl, by omega, by show _ ≤ (1099511627776 : Int); omega, hE, hb.trans (((HB1.out _ _).mono hb.size).trans (hb2.mono (Nat.le_trans hb.size (HB1.out _ _).size)))⟩, by simp [RowKit.intOf]; omega⟩
end Go.Proofs.YtpaehicfndkliaaGreatDoor.Pa
