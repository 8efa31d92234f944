import Derived.Test.YtpaehicfndkliaaGreatDoorDc
import Derived.Test.YtpaehicfndkliaaGreatDoorRows
import Derived.LoopTactic
import Derived.Deep.QuietTactic
import Derived.BigQuiet
import Derived.Test.YtpaehicfndkliaaGreatDoorDs

/- The walks of the document's 'deep', 'Deep', 'name', 'sum'. Condition: the path can be read. -/
namespace Go.Proofs.YtpaehicfndkliaaGreatDoor.De
open Go.RowKit Go.Lib Na Go.PN Pa

/-- How deep a row is. -/
def dpS : Fo → Int
  | .nil => 0
  | .cons _ _ d _ _ r => max (dpS d + 1) (dpS r)
theorem dpS_ge (f : Fo) : 0 ≤ dpS f := by
  induction f with
  | nil => exact Int.le_refl _
  | cons k l d mn mx r ih1 ih2 => rw [dpS]; omega
theorem lp_dpS (f : Fo) (at_ out : Int) (h : at_ + dpS f ≤ 40) (ho : at_ + out ≤ 40) (h0 : 0 ≤ out) : lp f at_ out = max out (dpS f) := by
  induction f generalizing at_ out with
  | nil => rw [lp, dpS]; omega
  | cons k l d mn mx r ih1 ih2 =>
    have hg := dpS_ge d
    have hr := dpS_ge r
    rw [dpS] at h
    have h1 : dp d (at_ + 1) = dpS d + 1 := by
      unfold dp
      rw [if_neg (by omega), ih1 (at_ + 1) 0 (by omega) (by omega) (Int.le_refl _)]
      omega
    rw [lp_cons, h1, if_neg (by omega), ih2 at_ _ (by omega) (by omega) (by omega), dpS]
    omega
theorem dpS_lp (f : Fo) (at_ out : Int) (h0 : 0 ≤ out) (h1 : at_ ≤ 40) (h : at_ + lp f at_ out ≤ 40) : at_ + dpS f ≤ 40 := by
  induction f generalizing at_ out with
  | nil => rw [dpS]; omega
  | cons k l d mn mx r ih1 ih2 =>
    rw [lp_cons] at h
    split at h
    · omega
    · rename_i hn
      have hge := lp_ge r at_ (max out (dp d (at_ + 1)))
      have hd : at_ + dp d (at_ + 1) ≤ 40 := by omega
      have hd2 : at_ + dpS d + 1 ≤ 40 := by
        unfold dp at hd
        split at hd
        · have : at_ = 40 := by omega
          omega
        · have := ih1 (at_ + 1) 0 (Int.le_refl _) (by omega) (by omega)
          omega
      have := ih2 at_ (max out (dp d (at_ + 1))) (by omega) h1 h
      rw [dpS]
      omega
/-- The program's depth is beyond a bound just if the true one is. -/
theorem dp_iff (d : Fo) : 20 < dp d 1 ↔ 20 < dpS d + 1 := by
  unfold dp
  rw [if_neg (by decide)]
  constructor
  · intro h
    by_cases h1 : 1 + dpS d ≤ 40
    · have := lp_dpS d 1 0 h1 (by decide) (Int.le_refl _)
      have := dpS_ge d
      omega
    · omega
  · intro h
    by_cases h1 : 1 + lp d 1 0 ≤ 40
    · have h2 := dpS_lp d 1 0 (Int.le_refl _) (by decide) h1
      have := lp_dpS d 1 0 h2 (by decide) (Int.le_refl _)
      have := dpS_ge d
      omega
    · omega
/-- The document's depth. -/
def rdp (d : Fo) (at_ : Int) : Int := min (at_ + dpS d) 41
set_option maxRecDepth 100000 in
set_option maxHeartbeats 8000000 in
theorem rdeep_n (n : Nat) : ∀ (a : Nd) (X : List Nat) (at_ : Int) (w : World), a.kids.sz < n → a.ok w X → 1 ≤ at_ → at_ ≤ 40 →
    Calls Tryz.prog 58 #[a.v, .int .i64 at_] w fun e w' => e = .returned (.int .i64 (rdp a.kids at_)) ∧ Below w.heap.size w w' := by
  induction n with
  | zero => intro a X at_ w hn; omega
  | succ n ih =>
    intro a X at_ w hn hok h1 h40
    obtain ⟨k, l, A, c, mn, mx, kids⟩ := a
    obtain ⟨hc, hc2, hat⟩ := hok
    unfold Nd.v
    simp only at hn hc hc2 hat ⊢
    have HW := Lib.hid ((Below.refl _ w).alloc (Nat.le_refl _) (obj5 k l A kids.len c mn mx))
    have HN := Lib.hid hn
    have HA := Lib.hid hat
    have IH := Lib.hid ih
    obtain ⟨RD, hRD⟩ : ∃ RD, rdp kids at_ = RD := ⟨_, rfl⟩
    have HRD := Lib.hid hRD
    rw [hRD]
    clear hat hn ih hRD
    go_enter Tryz.func58, Tryz.ntmps58
    go_wp2_with fail
    go_loopw [5, 6] (fun nv iv wr => ∃ (q : Nat) (dn r : Fo) (m : Int), Hid (kids = dn.app r) ∧ Hid (dn.len = q) ∧ iv = .int .i64 q ∧ nv = .int .i64 m ∧ at_ ≤ m ∧ m ≤ 41 ∧ Hid (min (max m (at_ + dpS r)) 41 = RD) ∧ Hid (Below (w.heap.size + 1) (w.alloc (obj5 k l A kids.len c mn mx)) wr)) (fun _ iv _ => kids.len - (RowKit.intOf iv).toNat)
    case atStart => exact ⟨0, .nil, kids, at_, Lib.hid rfl, Lib.hid rfl, rfl, rfl, Int.le_refl _, by omega, Lib.hid (by rw [← HRD.out]; unfold rdp; have := dpS_ge kids; omega), Lib.hid (Below.refl _ _)⟩
    case round =>
      obtain ⟨q, dn, r, m, hk, hq, rfl, rfl, hm1, hm2, hrl, hb⟩ := hrel
      have hlen := Lib.hid (show kids.len = q + r.len by rw [hk.out, Fo.app_len, hq.out])
      have hb0 := Lib.hid (box_below hb.out)
      obtain ⟨hx0, hx1, hx2, hx3, hx4⟩ := box_cells _ _ _ _ _ _ _ hb.out
      clear hx0 hx1 hx3 hx4
      cases r with
      | nil =>
        have hlt : ¬ (q : Int) < kids.len := by have := hlen.out; simp only [Fo.len] at this; omega
        have hT := Lib.hid (show RD = m by have := hrl.out; rw [dpS] at this; omega)
        go_wp2_with fail
        go_ret
        exact ⟨by rw [hT.out]; rfl, hb0.out⟩
      | cons k1 l1 d1 mn1 mx1 r1 =>
        have hlt : (q : Int) < kids.len := by have := hlen.out; simp only [Fo.len] at this; omega
        by_cases hmb : 40 < m
        · have t40 : decide (m ≤ 40) = false := decide_eq_false (by omega)
          have hT := Lib.hid (show RD = m by have := hrl.out; have := dpS_ge (.cons k1 l1 d1 mn1 mx1 r1); omega)
          go_wp2_with fail
          go_ret
          exact ⟨by rw [hT.out]; rfl, hb0.out⟩
        · have t40 : decide (m ≤ 40) = true := decide_eq_true (by omega)
          by_cases hat40 : 40 ≤ at_
          · have ta : decide (at_ ≥ 40) = true := decide_eq_true hat40
            have hT := Lib.hid (show RD = 41 by have := hrl.out; have h5 := dpS_ge d1; have h6 := dpS_ge r1; rw [dpS] at this; omega)
            go_wp2_with fail
            go_ret
            exact ⟨by rw [hT.out]; rfl, hb0.out⟩
          · have ta : decide (at_ ≥ 40) = false := decide_eq_false hat40
            have hq0 : (0 : Int) ≤ q := by omega
            have hk3 : kids = dn.app (.cons k1 l1 d1 mn1 mx1 r1) := hk.out
            obtain ⟨b0, o0, rfl⟩ := at_shape HA.out (by have := hlen.out; simp only [Fo.len] at this; omega)
            have h3 := HA.out.below hb0.out
            rw [hk3] at h3
            obtain ⟨K1, c1, hcel, hc3, hc4, hat1⟩ := h3.nth hq.out
            obtain ⟨e0, e1, e2, e3, e4⟩ := hcel
            have hsz : d1.sz < n := by
              have h5 := congrArg Fo.sz hk3
              rw [Fo.app_sz] at h5
              have h6 := HN.out
              simp only [Fo.sz] at h5
              omega
            have HC := Lib.hid (IH.out ⟨k1, l1, K1, c1, mn1, mx1, d1⟩ X (at_ + 1) wr hsz ⟨hc3, hc4, hat1⟩ (by omega) (by omega))
            unfold Nd.v at HC
            simp only at HC
            have hkk := Lib.hid (show kids = (dn.app (.cons k1 l1 d1 mn1 mx1 .nil)).app r1 by rw [hk3, Fo.app_assoc]; rfl)
            have hqq := Lib.hid (show (dn.app (.cons k1 l1 d1 mn1 mx1 .nil)).len = q + 1 by rw [Fo.app_len, hq.out]; rfl)
            have hrl2 := hrl.out
            rw [dpS] at hrl2
            have hd0 := dpS_ge d1
            have hr0 := dpS_ge r1
            obtain ⟨z, hz⟩ : ∃ z, rdp d1 (at_ + 1) = z := ⟨_, rfl⟩
            rw [hz] at HC
            unfold rdp at hz
            have hws := Lib.hid (show w.heap.size + 1 ≤ wr.heap.size by have := hb.out.size; simpa using this)
            have HR2 := Lib.hid (show min (max (max m z) (at_ + dpS r1)) 41 = RD by omega)
            have hmz : at_ ≤ max m z ∧ max m z ≤ 41 := by omega
            obtain ⟨hmz1, hmz2⟩ := hmz
            clear hsz hat1 h3 hk3 hrl2 hd0 hr0 hz hmb hat40
            by_cases hmx : m < z
            · have hme : max m z = z := by omega
              rw [hme] at HR2 hmz1 hmz2
              clear hme
              go_wp2_with (go_at_call 58; (with_reducible refine (HC.out).mono ?_); rintro e' w2 ⟨rfl, hb2⟩; have HB2 := Lib.hid hb2; clear hb2)
              exact ⟨⟨q + 1, _, r1, _, hkk, hqq, by go_num, rfl, hmz1, hmz2, HR2, Lib.hid (hb.out.trans (HB2.out.mono hws.out))⟩, by simp [RowKit.intOf] <;> omega⟩
            · have hme : max m z = m := by omega
              rw [hme] at HR2 hmz1 hmz2
              clear hme
              go_wp2_with (go_at_call 58; (with_reducible refine (HC.out).mono ?_); rintro e' w2 ⟨rfl, hb2⟩; have HB2 := Lib.hid hb2; clear hb2)
              exact ⟨⟨q + 1, _, r1, _, hkk, hqq, by go_num, rfl, hmz1, hmz2, HR2, Lib.hid (hb.out.trans (HB2.out.mono hws.out))⟩, by simp [RowKit.intOf] <;> omega⟩
theorem rDeep_any (a : Nd) (X : List Nat) (w : World) (h : a.ok w X) : Calls Tryz.prog 29 #[a.v] w fun e w' => e = .returned (.int .i64 (rdp a.kids 1)) ∧ Below w.heap.size w w' := by
  have HC := Lib.hid (rdeep_n (a.kids.sz + 1) a X 1 (w.alloc (obj5 a.k a.l a.A a.kids.len a.c a.mn a.mx)) (Nat.lt_succ_self _) (h.al _) (by decide) (by decide))
  have HB := Lib.hid ((Below.refl _ w).alloc (Nat.le_refl _) (obj5 a.k a.l a.A a.kids.len a.c a.mn a.mx))
  unfold Nd.v at *
  clear h
  generalize rdp a.kids 1 = R at *
  go_enter Tryz.func29, Tryz.ntmps29
  go_wp2_with (go_at_call 58; (with_reducible refine (HC.out).mono ?_); rintro e w2 ⟨rfl, hb2⟩; have HB2 := Lib.hid hb2; clear hb2)
  go_ret
  exact ⟨rfl, HB.out.trans (HB2.out.mono HB.out.size)⟩
theorem rname_any (l : ByteArray) (w : World) (h : l.size ≤ 9223372036854775807) : Calls Tryz.prog 60 #[.string l] w fun e w' => e = .returned (.bool (namedB l)) ∧ w = w' := by
  have HE := Lib.hid (show namedB l = (decide (0 < l.size) && decide (l.size ≤ 20)) from rfl)
  generalize namedB l = B at *
  by_cases h0 : 0 < l.size
  · have t0 : decide ((l.size : Int) ≥ 1) = true := decide_eq_true (by omega)
    by_cases h20 : l.size ≤ 20
    · have t1 : decide ((l.size : Int) ≤ 20) = true := decide_eq_true (by omega)
      have HT := Lib.hid (show B = true by rw [HE.out, decide_eq_true h0, decide_eq_true h20]; rfl)
      clear HE h0 h20
      go_enter Tryz.func60, Tryz.ntmps60
      go_wp2_with fail
      go_ret
      exact ⟨by rw [HT.out]; rfl, rfl⟩
    · have t1 : decide ((l.size : Int) ≤ 20) = false := decide_eq_false (by omega)
      have HT := Lib.hid (show B = false by rw [HE.out, decide_eq_false h20, Bool.and_false])
      clear HE h0 h20
      go_enter Tryz.func60, Tryz.ntmps60
      go_wp2_with fail
      go_ret
      exact ⟨by rw [HT.out]; rfl, rfl⟩
  · have t0 : decide ((l.size : Int) ≥ 1) = false := decide_eq_false (by omega)
    have HT := Lib.hid (show B = false by rw [HE.out, decide_eq_false h0]; rfl)
    clear HE h0
    go_enter Tryz.func60, Tryz.ntmps60
    go_wp2_with fail
    go_ret
    exact ⟨by rw [HT.out]; rfl, rfl⟩
theorem rsum_any (a b : Int) (w : World) (ha : 0 ≤ a ∧ a ≤ 1099511627776) (hb : 0 ≤ b ∧ b ≤ 1000000000000000000) : Calls Tryz.prog 61 #[.int .i64 a, .int .i64 b] w fun e w' => e = .returned (.int .i64 (min (a + b) 1099511627776)) ∧ w = w' := by
  obtain ⟨ha1, ha2⟩ := ha
  obtain ⟨hb1, hb2⟩ := hb
  by_cases h : (1099511627776 : Int) < a + b
  · have HT := Lib.hid (show min (a + b) 1099511627776 = 1099511627776 by omega)
    rw [HT.out]
    go_enter Tryz.func61, Tryz.ntmps61
    go_wp2_with fail
    go_ret
    exact ⟨rfl, rfl⟩
  · have HT := Lib.hid (show min (a + b) 1099511627776 = a + b by omega)
    rw [HT.out]
    go_enter Tryz.func61, Tryz.ntmps61
    go_wp2_with fail
    go_ret
    exact ⟨rfl, rfl⟩
end Go.Proofs.YtpaehicfndkliaaGreatDoor.De


/- The walks of the document's 'kids', 'checks'. Condition: the path can be read; it is not too great. -/
namespace Go.Proofs.YtpaehicfndkliaaGreatDoor.De
open Go.RowKit Go.Lib Na Go.PN Pa

def rkB (k : Int) (d : Fo) : Bool := if k = 1 ∨ k = 2 ∨ k = 3 then decide (d.len = 0) else if k = 4 ∨ k = 5 then noneK k d && decide (2 ≤ d.len) else if k = 6 ∨ k = 7 ∨ k = 8 ∨ k = 9 then decide (d.len = 1) else false
theorem oneE_rk (k : Int) (l : ByteArray) (d : Fo) (mn mx : Int) (h : d.len ≤ 1000000) : oneE k l d mn mx = if rkB k d = false then 1 else if k = 2 ∨ k = 3 then (if namedB l then 0 else 2) else if k = 9 then (if repB mn mx then 1 else 0) else 0 := by
  unfold oneE rkB leastI mostI kindB
  by_cases h1 : k = 1 ∨ k = 2 ∨ k = 3
  · rw [if_pos h1, if_pos h1, if_pos h1]
    rcases h1 with rfl | rfl | rfl <;> by_cases h0 : d.len = 0 <;> simp [h0] <;> omega
  · by_cases h4 : k = 4 ∨ k = 5
    · rw [if_neg h1, if_neg h1, if_neg h1, if_pos h4, if_pos h4, if_pos h4]
      rcases h4 with rfl | rfl
      · by_cases h2 : d.len < 2
        · simp [h2]
          intro h5
          omega
        · cases hn : noneK 4 d <;> simp [show 2 ≤ d.len by omega, show ¬ (1099511627776 : Int) < (d.len : Int) by omega, h2] <;> omega
      · by_cases h2 : d.len < 2
        · simp [h2]
          intro h5
          omega
        · cases hn : noneK 5 d <;> simp [show 2 ≤ d.len by omega, show ¬ (1099511627776 : Int) < (d.len : Int) by omega, h2] <;> omega
    · by_cases h6 : k = 6 ∨ k = 7 ∨ k = 8 ∨ k = 9
      · rw [if_neg h1, if_neg h1, if_neg h1, if_neg h4, if_neg h4, if_neg h4, if_pos h6, if_pos h6]
        rcases h6 with rfl | rfl | rfl | rfl <;> by_cases h0 : d.len = 1 <;> simp [h0] <;> omega
      · rw [if_neg h1, if_neg h1, if_neg h1, if_neg h4, if_neg h4, if_neg h4, if_neg h6, if_neg h6]
        have : ¬ (1 ≤ k ∧ k ≤ 9) := by omega
        simp
        omega
set_option maxRecDepth 100000 in
set_option maxHeartbeats 4000000 in
theorem rkids_1 (l : ByteArray) (A : Option Addr) (c : Nat) (mn mx : Int) (kids : Fo) (w : World) : Calls Tryz.prog 59 #[.agg #[.int .i64 1, .string l, .slice A kids.len c, .int .i64 mn, .int .i64 mx]] w fun e w' => e = .returned (.bool (rkB 1 kids)) ∧ Below w.heap.size w w' := by
  have HB := Lib.hid ((Below.refl _ w).alloc (Nat.le_refl _) (obj5 1 l A kids.len c mn mx))
  have HE := Lib.hid (show rkB 1 kids = decide (kids.len = 0) from rfl)
  generalize rkB 1 kids = B at *
  by_cases h0 : kids.len = 0
  · have t0 : ((kids.len : Int) == 0) = true := by rw [beq_iff_eq]; omega
    have HT := Lib.hid (show B = true by rw [HE.out]; exact decide_eq_true h0)
    clear HE h0
    generalize kids.len = L at *
    go_enter Tryz.func59, Tryz.ntmps59
    go_wp2_with fail
    go_ret
    exact ⟨by rw [HT.out]; rfl, HB.out⟩
  · have t0 : ((kids.len : Int) == 0) = false := by rw [beq_eq_false_iff_ne]; omega
    have HT := Lib.hid (show B = false by rw [HE.out]; exact decide_eq_false h0)
    clear HE h0
    generalize kids.len = L at *
    go_enter Tryz.func59, Tryz.ntmps59
    go_wp2_with fail
    go_ret
    exact ⟨by rw [HT.out]; rfl, HB.out⟩
set_option maxRecDepth 100000 in
set_option maxHeartbeats 4000000 in
theorem rkids_2 (l : ByteArray) (A : Option Addr) (c : Nat) (mn mx : Int) (kids : Fo) (w : World) : Calls Tryz.prog 59 #[.agg #[.int .i64 2, .string l, .slice A kids.len c, .int .i64 mn, .int .i64 mx]] w fun e w' => e = .returned (.bool (rkB 2 kids)) ∧ Below w.heap.size w w' := by
  have HB := Lib.hid ((Below.refl _ w).alloc (Nat.le_refl _) (obj5 2 l A kids.len c mn mx))
  have HE := Lib.hid (show rkB 2 kids = decide (kids.len = 0) from rfl)
  generalize rkB 2 kids = B at *
  by_cases h0 : kids.len = 0
  · have t0 : ((kids.len : Int) == 0) = true := by rw [beq_iff_eq]; omega
    have HT := Lib.hid (show B = true by rw [HE.out]; exact decide_eq_true h0)
    clear HE h0
    generalize kids.len = L at *
    go_enter Tryz.func59, Tryz.ntmps59
    go_wp2_with fail
    go_ret
    exact ⟨by rw [HT.out]; rfl, HB.out⟩
  · have t0 : ((kids.len : Int) == 0) = false := by rw [beq_eq_false_iff_ne]; omega
    have HT := Lib.hid (show B = false by rw [HE.out]; exact decide_eq_false h0)
    clear HE h0
    generalize kids.len = L at *
    go_enter Tryz.func59, Tryz.ntmps59
    go_wp2_with fail
    go_ret
    exact ⟨by rw [HT.out]; rfl, HB.out⟩
set_option maxRecDepth 100000 in
set_option maxHeartbeats 4000000 in
theorem rkids_3 (l : ByteArray) (A : Option Addr) (c : Nat) (mn mx : Int) (kids : Fo) (w : World) : Calls Tryz.prog 59 #[.agg #[.int .i64 3, .string l, .slice A kids.len c, .int .i64 mn, .int .i64 mx]] w fun e w' => e = .returned (.bool (rkB 3 kids)) ∧ Below w.heap.size w w' := by
  have HB := Lib.hid ((Below.refl _ w).alloc (Nat.le_refl _) (obj5 3 l A kids.len c mn mx))
  have HE := Lib.hid (show rkB 3 kids = decide (kids.len = 0) from rfl)
  generalize rkB 3 kids = B at *
  by_cases h0 : kids.len = 0
  · have t0 : ((kids.len : Int) == 0) = true := by rw [beq_iff_eq]; omega
    have HT := Lib.hid (show B = true by rw [HE.out]; exact decide_eq_true h0)
    clear HE h0
    generalize kids.len = L at *
    go_enter Tryz.func59, Tryz.ntmps59
    go_wp2_with fail
    go_ret
    exact ⟨by rw [HT.out]; rfl, HB.out⟩
  · have t0 : ((kids.len : Int) == 0) = false := by rw [beq_eq_false_iff_ne]; omega
    have HT := Lib.hid (show B = false by rw [HE.out]; exact decide_eq_false h0)
    clear HE h0
    generalize kids.len = L at *
    go_enter Tryz.func59, Tryz.ntmps59
    go_wp2_with fail
    go_ret
    exact ⟨by rw [HT.out]; rfl, HB.out⟩
set_option maxRecDepth 100000 in
set_option maxHeartbeats 4000000 in
theorem rkids_6 (l : ByteArray) (A : Option Addr) (c : Nat) (mn mx : Int) (kids : Fo) (w : World) : Calls Tryz.prog 59 #[.agg #[.int .i64 6, .string l, .slice A kids.len c, .int .i64 mn, .int .i64 mx]] w fun e w' => e = .returned (.bool (rkB 6 kids)) ∧ Below w.heap.size w w' := by
  have HB := Lib.hid ((Below.refl _ w).alloc (Nat.le_refl _) (obj5 6 l A kids.len c mn mx))
  have HE := Lib.hid (show rkB 6 kids = decide (kids.len = 1) from rfl)
  generalize rkB 6 kids = B at *
  by_cases h0 : kids.len = 1
  · have t0 : ((kids.len : Int) == 1) = true := by rw [beq_iff_eq]; omega
    have HT := Lib.hid (show B = true by rw [HE.out]; exact decide_eq_true h0)
    clear HE h0
    generalize kids.len = L at *
    go_enter Tryz.func59, Tryz.ntmps59
    go_wp2_with fail
    go_ret
    exact ⟨by rw [HT.out]; rfl, HB.out⟩
  · have t0 : ((kids.len : Int) == 1) = false := by rw [beq_eq_false_iff_ne]; omega
    have HT := Lib.hid (show B = false by rw [HE.out]; exact decide_eq_false h0)
    clear HE h0
    generalize kids.len = L at *
    go_enter Tryz.func59, Tryz.ntmps59
    go_wp2_with fail
    go_ret
    exact ⟨by rw [HT.out]; rfl, HB.out⟩
set_option maxRecDepth 100000 in
set_option maxHeartbeats 4000000 in
theorem rkids_7 (l : ByteArray) (A : Option Addr) (c : Nat) (mn mx : Int) (kids : Fo) (w : World) : Calls Tryz.prog 59 #[.agg #[.int .i64 7, .string l, .slice A kids.len c, .int .i64 mn, .int .i64 mx]] w fun e w' => e = .returned (.bool (rkB 7 kids)) ∧ Below w.heap.size w w' := by
  have HB := Lib.hid ((Below.refl _ w).alloc (Nat.le_refl _) (obj5 7 l A kids.len c mn mx))
  have HE := Lib.hid (show rkB 7 kids = decide (kids.len = 1) from rfl)
  generalize rkB 7 kids = B at *
  by_cases h0 : kids.len = 1
  · have t0 : ((kids.len : Int) == 1) = true := by rw [beq_iff_eq]; omega
    have HT := Lib.hid (show B = true by rw [HE.out]; exact decide_eq_true h0)
    clear HE h0
    generalize kids.len = L at *
    go_enter Tryz.func59, Tryz.ntmps59
    go_wp2_with fail
    go_ret
    exact ⟨by rw [HT.out]; rfl, HB.out⟩
  · have t0 : ((kids.len : Int) == 1) = false := by rw [beq_eq_false_iff_ne]; omega
    have HT := Lib.hid (show B = false by rw [HE.out]; exact decide_eq_false h0)
    clear HE h0
    generalize kids.len = L at *
    go_enter Tryz.func59, Tryz.ntmps59
    go_wp2_with fail
    go_ret
    exact ⟨by rw [HT.out]; rfl, HB.out⟩
set_option maxRecDepth 100000 in
set_option maxHeartbeats 4000000 in
theorem rkids_8 (l : ByteArray) (A : Option Addr) (c : Nat) (mn mx : Int) (kids : Fo) (w : World) : Calls Tryz.prog 59 #[.agg #[.int .i64 8, .string l, .slice A kids.len c, .int .i64 mn, .int .i64 mx]] w fun e w' => e = .returned (.bool (rkB 8 kids)) ∧ Below w.heap.size w w' := by
  have HB := Lib.hid ((Below.refl _ w).alloc (Nat.le_refl _) (obj5 8 l A kids.len c mn mx))
  have HE := Lib.hid (show rkB 8 kids = decide (kids.len = 1) from rfl)
  generalize rkB 8 kids = B at *
  by_cases h0 : kids.len = 1
  · have t0 : ((kids.len : Int) == 1) = true := by rw [beq_iff_eq]; omega
    have HT := Lib.hid (show B = true by rw [HE.out]; exact decide_eq_true h0)
    clear HE h0
    generalize kids.len = L at *
    go_enter Tryz.func59, Tryz.ntmps59
    go_wp2_with fail
    go_ret
    exact ⟨by rw [HT.out]; rfl, HB.out⟩
  · have t0 : ((kids.len : Int) == 1) = false := by rw [beq_eq_false_iff_ne]; omega
    have HT := Lib.hid (show B = false by rw [HE.out]; exact decide_eq_false h0)
    clear HE h0
    generalize kids.len = L at *
    go_enter Tryz.func59, Tryz.ntmps59
    go_wp2_with fail
    go_ret
    exact ⟨by rw [HT.out]; rfl, HB.out⟩
set_option maxRecDepth 100000 in
set_option maxHeartbeats 4000000 in
theorem rkids_9 (l : ByteArray) (A : Option Addr) (c : Nat) (mn mx : Int) (kids : Fo) (w : World) : Calls Tryz.prog 59 #[.agg #[.int .i64 9, .string l, .slice A kids.len c, .int .i64 mn, .int .i64 mx]] w fun e w' => e = .returned (.bool (rkB 9 kids)) ∧ Below w.heap.size w w' := by
  have HB := Lib.hid ((Below.refl _ w).alloc (Nat.le_refl _) (obj5 9 l A kids.len c mn mx))
  have HE := Lib.hid (show rkB 9 kids = decide (kids.len = 1) from rfl)
  generalize rkB 9 kids = B at *
  by_cases h0 : kids.len = 1
  · have t0 : ((kids.len : Int) == 1) = true := by rw [beq_iff_eq]; omega
    have HT := Lib.hid (show B = true by rw [HE.out]; exact decide_eq_true h0)
    clear HE h0
    generalize kids.len = L at *
    go_enter Tryz.func59, Tryz.ntmps59
    go_wp2_with fail
    go_ret
    exact ⟨by rw [HT.out]; rfl, HB.out⟩
  · have t0 : ((kids.len : Int) == 1) = false := by rw [beq_eq_false_iff_ne]; omega
    have HT := Lib.hid (show B = false by rw [HE.out]; exact decide_eq_false h0)
    clear HE h0
    generalize kids.len = L at *
    go_enter Tryz.func59, Tryz.ntmps59
    go_wp2_with fail
    go_ret
    exact ⟨by rw [HT.out]; rfl, HB.out⟩
theorem below_dN2 (B : Nat) (w : World) (n : Nat) : Below B w (w.drewN n) := by
  induction n with
  | zero => exact Below.refl _ _
  | succ n ih => exact ih.drew
set_option maxRecDepth 100000 in
set_option maxHeartbeats 8000000 in
theorem rkids_4 (l : ByteArray) (A : Option Addr) (c : Nat) (mn mx : Int) (kids : Fo) (X : List Nat) (w : World) (hat : At w X kids A) (hc : kids.len ≤ c) (hc2 : c ≤ 9223372036854775807) : Calls Tryz.prog 59 #[.agg #[.int .i64 4, .string l, .slice A kids.len c, .int .i64 mn, .int .i64 mx]] w fun e w' => e = .returned (.bool (rkB 4 kids)) ∧ Below w.heap.size w w' := by
  have HE := Lib.hid (show rkB 4 kids = (noneK 4 kids && decide (2 ≤ kids.len)) from rfl)
  generalize rkB 4 kids = B at *
  have HA := Lib.hid hat
  clear hat
  go_enter Tryz.func59, Tryz.ntmps59
  go_wp2_with fail
  go_loopw [3] (fun iv wr => ∃ (q : Nat) (dn r : Fo), Hid (kids = dn.app r) ∧ Hid (dn.len = q) ∧ iv = .int .i64 q ∧ Hid (noneK 4 r = noneK 4 kids) ∧ Hid (Below (w.heap.size + 1) (w.alloc (obj5 4 l A kids.len c mn mx)) wr)) (fun iv _ => kids.len - (RowKit.intOf iv).toNat)
  case atStart => exact ⟨0, .nil, kids, Lib.hid rfl, Lib.hid rfl, rfl, Lib.hid rfl, Lib.hid (Below.refl _ _)⟩
  case round =>
    obtain ⟨q, dn, r, hk, hq, rfl, hr, hb⟩ := hrel
    have hlen := Lib.hid (show kids.len = q + r.len by rw [hk.out, Fo.app_len, hq.out])
    have hb0 := Lib.hid (box_below hb.out)
    obtain ⟨hx0, hx1, hx2, hx3, hx4⟩ := box_cells _ _ _ _ _ _ _ hb.out
    clear hx1 hx3 hx4
    cases r with
    | nil =>
      have hlt : ¬ (q : Int) < kids.len := by have := hlen.out; simp only [Fo.len] at this; omega
      have hn := Lib.hid (show noneK 4 kids = true by rw [← hr.out]; rfl)
      by_cases h2 : 2 ≤ kids.len
      · have t2 : decide ((kids.len : Int) ≥ 2) = true := decide_eq_true (by omega)
        have HT := Lib.hid (show B = true by rw [HE.out, hn.out, decide_eq_true h2]; rfl)
        go_wp2_with fail
        go_ret
        exact ⟨by rw [HT.out]; rfl, hb0.out⟩
      · have t2 : decide ((kids.len : Int) ≥ 2) = false := decide_eq_false (by omega)
        have HT := Lib.hid (show B = false by rw [HE.out, hn.out, decide_eq_false h2]; rfl)
        go_wp2_with fail
        go_ret
        exact ⟨by rw [HT.out]; rfl, hb0.out⟩
    | cons k1 l1 d1 mn1 mx1 r1 =>
      have hlt : (q : Int) < kids.len := by have := hlen.out; simp only [Fo.len] at this; omega
      have hq0 : (0 : Int) ≤ q := by omega
      have hk3 : kids = dn.app (.cons k1 l1 d1 mn1 mx1 r1) := hk.out
      obtain ⟨b0, o0, rfl⟩ := at_shape HA.out (by have := hlen.out; simp only [Fo.len] at this; omega)
      have h3 := HA.out.below hb0.out
      rw [hk3] at h3
      obtain ⟨K1, c1, hcel, hc3, hc4, hat1⟩ := h3.nth hq.out
      obtain ⟨e0, e1, e2, e3, e4⟩ := hcel
      have hkk := Lib.hid (show kids = (dn.app (.cons k1 l1 d1 mn1 mx1 .nil)).app r1 by rw [hk3, Fo.app_assoc]; rfl)
      have hqq := Lib.hid (show (dn.app (.cons k1 l1 d1 mn1 mx1 .nil)).len = q + 1 by rw [Fo.app_len, hq.out]; rfl)
      have hr2 := hr.out
      rw [noneK] at hr2
      clear h3 hat1 hk3 e1 e2 e3 e4
      cases te : k1 == 4
      · have hr3 := Lib.hid (show noneK 4 r1 = noneK 4 kids by rw [← hr2, te]; rfl)
        clear hr2
        go_wp2_with fail
        go_quiet (fail)
        go_wp2_with fail
        exact ⟨⟨q + 1, _, r1, hkk, hqq, by go_num, hr3, Lib.hid (hb.out.trans ((below_dN2 _ _ _)))⟩, by simp [RowKit.intOf] <;> omega⟩
      · have HT := Lib.hid (show B = false by rw [HE.out, ← hr2, te]; rfl)
        clear hr2
        go_wp2_with fail
        go_quiet (fail)
        go_wp2_with fail
        go_ret
        exact ⟨by rw [HT.out]; rfl, hb0.out.trans (below_dN2 _ _ _)⟩
set_option maxRecDepth 100000 in
set_option maxHeartbeats 8000000 in
theorem rkids_5 (l : ByteArray) (A : Option Addr) (c : Nat) (mn mx : Int) (kids : Fo) (X : List Nat) (w : World) (hat : At w X kids A) (hc : kids.len ≤ c) (hc2 : c ≤ 9223372036854775807) : Calls Tryz.prog 59 #[.agg #[.int .i64 5, .string l, .slice A kids.len c, .int .i64 mn, .int .i64 mx]] w fun e w' => e = .returned (.bool (rkB 5 kids)) ∧ Below w.heap.size w w' := by
  have HE := Lib.hid (show rkB 5 kids = (noneK 5 kids && decide (2 ≤ kids.len)) from rfl)
  generalize rkB 5 kids = B at *
  have HA := Lib.hid hat
  clear hat
  go_enter Tryz.func59, Tryz.ntmps59
  go_wp2_with fail
  go_loopw [3] (fun iv wr => ∃ (q : Nat) (dn r : Fo), Hid (kids = dn.app r) ∧ Hid (dn.len = q) ∧ iv = .int .i64 q ∧ Hid (noneK 5 r = noneK 5 kids) ∧ Hid (Below (w.heap.size + 1) (w.alloc (obj5 5 l A kids.len c mn mx)) wr)) (fun iv _ => kids.len - (RowKit.intOf iv).toNat)
  case atStart => exact ⟨0, .nil, kids, Lib.hid rfl, Lib.hid rfl, rfl, Lib.hid rfl, Lib.hid (Below.refl _ _)⟩
  case round =>
    obtain ⟨q, dn, r, hk, hq, rfl, hr, hb⟩ := hrel
    have hlen := Lib.hid (show kids.len = q + r.len by rw [hk.out, Fo.app_len, hq.out])
    have hb0 := Lib.hid (box_below hb.out)
    obtain ⟨hx0, hx1, hx2, hx3, hx4⟩ := box_cells _ _ _ _ _ _ _ hb.out
    clear hx1 hx3 hx4
    cases r with
    | nil =>
      have hlt : ¬ (q : Int) < kids.len := by have := hlen.out; simp only [Fo.len] at this; omega
      have hn := Lib.hid (show noneK 5 kids = true by rw [← hr.out]; rfl)
      by_cases h2 : 2 ≤ kids.len
      · have t2 : decide ((kids.len : Int) ≥ 2) = true := decide_eq_true (by omega)
        have HT := Lib.hid (show B = true by rw [HE.out, hn.out, decide_eq_true h2]; rfl)
        go_wp2_with fail
        go_ret
        exact ⟨by rw [HT.out]; rfl, hb0.out⟩
      · have t2 : decide ((kids.len : Int) ≥ 2) = false := decide_eq_false (by omega)
        have HT := Lib.hid (show B = false by rw [HE.out, hn.out, decide_eq_false h2]; rfl)
        go_wp2_with fail
        go_ret
        exact ⟨by rw [HT.out]; rfl, hb0.out⟩
    | cons k1 l1 d1 mn1 mx1 r1 =>
      have hlt : (q : Int) < kids.len := by have := hlen.out; simp only [Fo.len] at this; omega
      have hq0 : (0 : Int) ≤ q := by omega
      have hk3 : kids = dn.app (.cons k1 l1 d1 mn1 mx1 r1) := hk.out
      obtain ⟨b0, o0, rfl⟩ := at_shape HA.out (by have := hlen.out; simp only [Fo.len] at this; omega)
      have h3 := HA.out.below hb0.out
      rw [hk3] at h3
      obtain ⟨K1, c1, hcel, hc3, hc4, hat1⟩ := h3.nth hq.out
      obtain ⟨e0, e1, e2, e3, e4⟩ := hcel
      have hkk := Lib.hid (show kids = (dn.app (.cons k1 l1 d1 mn1 mx1 .nil)).app r1 by rw [hk3, Fo.app_assoc]; rfl)
      have hqq := Lib.hid (show (dn.app (.cons k1 l1 d1 mn1 mx1 .nil)).len = q + 1 by rw [Fo.app_len, hq.out]; rfl)
      have hr2 := hr.out
      rw [noneK] at hr2
      clear h3 hat1 hk3 e1 e2 e3 e4
      cases te : k1 == 5
      · have hr3 := Lib.hid (show noneK 5 r1 = noneK 5 kids by rw [← hr2, te]; rfl)
        clear hr2
        go_wp2_with fail
        go_quiet (fail)
        go_wp2_with fail
        exact ⟨⟨q + 1, _, r1, hkk, hqq, by go_num, hr3, Lib.hid (hb.out.trans ((below_dN2 _ _ _)))⟩, by simp [RowKit.intOf] <;> omega⟩
      · have HT := Lib.hid (show B = false by rw [HE.out, ← hr2, te]; rfl)
        clear hr2
        go_wp2_with fail
        go_quiet (fail)
        go_wp2_with fail
        go_ret
        exact ⟨by rw [HT.out]; rfl, hb0.out.trans (below_dN2 _ _ _)⟩
set_option maxRecDepth 100000 in
set_option maxHeartbeats 4000000 in
theorem rkids_no (k : Int) (hk : ¬ (1 ≤ k ∧ k ≤ 9)) (l : ByteArray) (A : Option Addr) (c : Nat) (mn mx : Int) (kids : Fo) (w : World) : Calls Tryz.prog 59 #[.agg #[.int .i64 k, .string l, .slice A kids.len c, .int .i64 mn, .int .i64 mx]] w fun e w' => e = .returned (.bool (rkB k kids)) ∧ Below w.heap.size w w' := by
  have HB := Lib.hid ((Below.refl _ w).alloc (Nat.le_refl _) (obj5 k l A kids.len c mn mx))
  have HT := Lib.hid (show rkB k kids = false by unfold rkB; rw [if_neg (by omega), if_neg (by omega), if_neg (by omega)])
  have t1 : (k == 1) = false := by rw [beq_eq_false_iff_ne]; omega
  have t2 : (k == 2) = false := by rw [beq_eq_false_iff_ne]; omega
  have t3 : (k == 3) = false := by rw [beq_eq_false_iff_ne]; omega
  have t4 : (k == 4) = false := by rw [beq_eq_false_iff_ne]; omega
  have t5 : (k == 5) = false := by rw [beq_eq_false_iff_ne]; omega
  have t6 : (k == 6) = false := by rw [beq_eq_false_iff_ne]; omega
  have t7 : (k == 7) = false := by rw [beq_eq_false_iff_ne]; omega
  have t8 : (k == 8) = false := by rw [beq_eq_false_iff_ne]; omega
  have t9 : (k == 9) = false := by rw [beq_eq_false_iff_ne]; omega
  clear hk
  generalize rkB k kids = B at *
  generalize kids.len = L at *
  go_enter Tryz.func59, Tryz.ntmps59
  go_wp2_with fail
  go_ret
  exact ⟨by rw [HT.out]; rfl, HB.out⟩
theorem rkids_any (a : Nd) (X : List Nat) (w : World) (h : a.ok w X) : Calls Tryz.prog 59 #[a.v] w fun e w' => e = .returned (.bool (rkB a.k a.kids)) ∧ Below w.heap.size w w' := by
  obtain ⟨k, l, A, c, mn, mx, kids⟩ := a
  by_cases hk : 1 ≤ k ∧ k ≤ 9
  · rcases (show k = 1 ∨ k = 2 ∨ k = 3 ∨ k = 4 ∨ k = 5 ∨ k = 6 ∨ k = 7 ∨ k = 8 ∨ k = 9 by omega) with rfl | rfl | rfl | rfl | rfl | rfl | rfl | rfl | rfl
    · exact rkids_1 l A c mn mx kids w
    · exact rkids_2 l A c mn mx kids w
    · exact rkids_3 l A c mn mx kids w
    · exact rkids_4 l A c mn mx kids X w h.2.2 h.1 h.2.1
    · exact rkids_5 l A c mn mx kids X w h.2.2 h.1 h.2.1
    · exact rkids_6 l A c mn mx kids w
    · exact rkids_7 l A c mn mx kids w
    · exact rkids_8 l A c mn mx kids w
    · exact rkids_9 l A c mn mx kids w
  · exact rkids_no k hk l A c mn mx kids w
end Go.Proofs.YtpaehicfndkliaaGreatDoor.De


/- The walk of the document's 'checks'. Condition: the path can be read; it is not too great. -/
namespace Go.Proofs.YtpaehicfndkliaaGreatDoor.De
open Go.RowKit Go.Lib Na Go.PN Pa

set_option maxRecDepth 100000 in
set_option maxHeartbeats 32000000 in
theorem rchecks_n (n : Nat) : ∀ (a : Nd) (X : List Nat) (w : World), a.kids.sz < n → a.kids.sz ≤ 1000000 → Lb (a.fo .nil) → a.ok w X → Calls Tryz.prog 30 #[a.v] w fun e w' => e = .returned (.int .i64 (allE a.k a.l a.kids a.mn a.mx)) ∧ Below w.heap.size w w' := by
  induction n with
  | zero => intro a X w hn; omega
  | succ n ih =>
    intro a X w hn hmax hlb hok
    have HK := Lib.hid (rkids_any a X (w.alloc (obj5 a.k a.l a.A a.kids.len a.c a.mn a.mx)) (hok.al _))
    obtain ⟨k, l, A, c, mn, mx, kids⟩ := a
    obtain ⟨hc, hc2, hat⟩ := hok
    unfold Nd.v at *
    simp only at hn hmax hc hc2 hat HK ⊢
    have hlsz : l.size ≤ 9223372036854775807 := hlb.1
    have HLB := Lib.hid hlb.2.1
    have hsl := sz_len kids
    have HONE := Lib.hid (oneE_rk k l kids mn mx (by omega))
    have HALL := Lib.hid (show allE k l kids mn mx = alL kids (oneE k l kids mn mx) from rfl)
    have HNM := Lib.hid (fun w => rname_any l w hlsz)
    have HN := Lib.hid hn
    have HMX := Lib.hid hmax
    have HA := Lib.hid hat
    have IH := Lib.hid ih
    have HSZ := Lib.hid (show (w.alloc (obj5 k l A kids.len c mn mx)).heap.size = w.heap.size + 1 by simp)
    have HBB := Lib.hid (show ∀ w1, Below (w.alloc (obj5 k l A kids.len c mn mx)).heap.size (w.alloc (obj5 k l A kids.len c mn mx)) w1 → Below (w.heap.size + 1) (w.alloc (obj5 k l A kids.len c mn mx)) w1 from fun w1 h => by rw [HSZ.out] at h; exact h)
    have HB0 := Lib.hid ((Below.refl _ w).alloc (Nat.le_refl _) (obj5 k l A kids.len c mn mx))
    have HY := Lib.hid (Bx.new w (.int .i64 k) (.string l) (.slice A kids.len c) (.int .i64 mn) (.int .i64 mx) 24)
    obtain ⟨R, hR⟩ : ∃ R, allE k l kids mn mx = R := ⟨_, rfl⟩
    have HR := Lib.hid hR
    rw [hR]
    clear hat hn ih hlb hmax hsl hR hlsz
    cases hrk : rkB k kids
    · rw [hrk] at HK
      have HT := Lib.hid (show R = 1 by rw [← HR.out, HALL.out, HONE.out, hrk, if_pos rfl]; exact alL_ne _ _ (by decide))
      clear hrk HONE HALL HR
      go_enter Tryz.func30, Tryz.ntmps30
      go_wp2_with (first | (go_at_call 59; (with_reducible refine (HK.out).mono ?_); rintro e w1 ⟨rfl, hb1⟩; have HBX := Lib.hid (HBB.out _ hb1); obtain ⟨⟨x0, x1, x2, x3, x4⟩, y0, y1, y2, y3, y4⟩ := bx_all (HY.out.below hb1); clear hb1))
      go_ret
      exact ⟨by rw [HT.out]; rfl, box_below HBX.out⟩
    · rw [hrk] at HK
      by_cases h23 : k = 2 ∨ k = 3
      · cases hnm : namedB l
        · rw [hnm] at HNM
          have HT := Lib.hid (show R = 2 by rw [← HR.out, HALL.out, HONE.out, hrk, if_neg (by decide), if_pos h23, hnm]; exact alL_ne _ _ (by decide))
          clear hrk HONE HALL HR hnm
          rcases h23 with rfl | rfl
          · go_enter Tryz.func30, Tryz.ntmps30
            go_wp2_with (first | (go_at_call 59; (with_reducible refine (HK.out).mono ?_); rintro e w1 ⟨rfl, hb1⟩; have HBX := Lib.hid (HBB.out _ hb1); obtain ⟨⟨x0, x1, x2, x3, x4⟩, y0, y1, y2, y3, y4⟩ := bx_all (HY.out.below hb1); clear hb1) | (go_at_call 60; (with_reducible refine (HNM.out _).mono ?_); rintro e w2 ⟨rfl, rfl⟩))
            go_ret
            exact ⟨by rw [HT.out]; rfl, box_below HBX.out⟩
          · go_enter Tryz.func30, Tryz.ntmps30
            go_wp2_with (first | (go_at_call 59; (with_reducible refine (HK.out).mono ?_); rintro e w1 ⟨rfl, hb1⟩; have HBX := Lib.hid (HBB.out _ hb1); obtain ⟨⟨x0, x1, x2, x3, x4⟩, y0, y1, y2, y3, y4⟩ := bx_all (HY.out.below hb1); clear hb1) | (go_at_call 60; (with_reducible refine (HNM.out _).mono ?_); rintro e w2 ⟨rfl, rfl⟩))
            go_ret
            exact ⟨by rw [HT.out]; rfl, box_below HBX.out⟩
        · rw [hnm] at HNM
          have HT := Lib.hid (show alL kids 0 = R by rw [← HR.out, HALL.out, HONE.out, hrk, if_neg (by decide), if_pos h23, hnm, if_pos rfl])
          clear hrk HONE HALL HR hnm
          rcases h23 with rfl | rfl
          · go_enter Tryz.func30, Tryz.ntmps30
            go_wp2_with (first | (go_at_call 59; (with_reducible refine (HK.out).mono ?_); rintro e w1 ⟨rfl, hb1⟩; have HBX := Lib.hid (HBB.out _ hb1); obtain ⟨⟨x0, x1, x2, x3, x4⟩, y0, y1, y2, y3, y4⟩ := bx_all (HY.out.below hb1); clear hb1) | (go_at_call 60; (with_reducible refine (HNM.out _).mono ?_); rintro e w2 ⟨rfl, rfl⟩))
            clear x0 x1 x2 x3 x4 y0 y1 y2 y3 y4
            go_loopw [3] (fun iv wr => ∃ (q : Nat) (dn r : Fo), Hid (kids = dn.app r) ∧ Hid (dn.len = q) ∧ iv = .int .i64 q ∧ Hid (alL r 0 = R) ∧ Hid (Below (w.heap.size + 1) (w.alloc (obj5 _ l A kids.len c mn mx)) wr)) (fun iv _ => kids.len - (RowKit.intOf iv).toNat)
            case atStart => exact ⟨0, .nil, kids, Lib.hid rfl, Lib.hid rfl, rfl, HT, HBX⟩
            case round =>
              obtain ⟨q, dn, r, hk, hq, rfl, hr, hb⟩ := hrel
              have hlen := Lib.hid (show kids.len = q + r.len by rw [hk.out, Fo.app_len, hq.out])
              have hb0 := Lib.hid (box_below hb.out)
              obtain ⟨hx0, hx1, hx2, hx3, hx4⟩ := box_cells _ _ _ _ _ _ _ hb.out
              clear hx0 hx1 hx3 hx4
              cases r with
              | nil =>
                have hlt : ¬ (q : Int) < kids.len := by have := hlen.out; simp only [Fo.len] at this; omega
                have hT := Lib.hid (show R = 0 from hr.out.symm)
                go_wp2_with fail
                go_ret
                exact ⟨by rw [hT.out]; rfl, hb0.out⟩
              | cons k1 l1 d1 mn1 mx1 r1 =>
                have hlt : (q : Int) < kids.len := by have := hlen.out; simp only [Fo.len] at this; omega
                have hq0 : (0 : Int) ≤ q := by omega
                have hk3 : kids = dn.app (.cons k1 l1 d1 mn1 mx1 r1) := hk.out
                obtain ⟨b0, o0, rfl⟩ := at_shape HA.out (by have := hlen.out; simp only [Fo.len] at this; omega)
                have h3 := HA.out.below hb0.out
                rw [hk3] at h3
                obtain ⟨K1, c1, hcel, hc3, hc4, hat1⟩ := h3.nth hq.out
                obtain ⟨e0, e1, e2, e3, e4⟩ := hcel
                have hsz : d1.sz < n ∧ d1.sz ≤ 1000000 := by
                  have h5 := congrArg Fo.sz hk3
                  rw [Fo.app_sz] at h5
                  have h6 := HN.out
                  have h7 := HMX.out
                  simp only [Fo.sz] at h5
                  omega
                have hlk : Lb (.cons k1 l1 d1 mn1 mx1 .nil) := by
                  have h5 := HLB.out
                  rw [hk3] at h5
                  have h6 := Lb.app h5
                  exact ⟨h6.1, h6.2.1, trivial⟩
                have HC := Lib.hid (IH.out ⟨k1, l1, K1, c1, mn1, mx1, d1⟩ X wr hsz.1 hsz.2 hlk ⟨hc3, hc4, hat1⟩)
                simp only at HC
                have hkk := Lib.hid (show kids = (dn.app (.cons k1 l1 d1 mn1 mx1 .nil)).app r1 by rw [hk3, Fo.app_assoc]; rfl)
                have hqq := Lib.hid (show (dn.app (.cons k1 l1 d1 mn1 mx1 .nil)).len = q + 1 by rw [Fo.app_len, hq.out]; rfl)
                have hr2 := hr.out
                rw [alL_cons, if_pos rfl] at hr2
                have hws := Lib.hid (show w.heap.size + 1 ≤ wr.heap.size by have := hb.out.size; rw [HSZ.out] at this; exact this)
                clear hsz hat1 h3 hk3 hlk
                generalize allE k1 l1 d1 mn1 mx1 = z at *
                by_cases hz : z = 0
                · subst hz
                  have hr3 := Lib.hid hr2
                  clear hr2
                  go_wp2_with (go_at_call 30; (with_reducible refine (HC.out).mono ?_); rintro e' w2 ⟨rfl, hb2⟩; have HB2 := Lib.hid hb2; clear hb2)
                  exact ⟨⟨q + 1, _, r1, hkk, hqq, by go_num, hr3, Lib.hid (hb.out.trans (HB2.out.mono hws.out))⟩, by simp [RowKit.intOf] <;> omega⟩
                · have tz : (z != 0) = true := by rw [bne_iff_ne]; exact hz
                  have tz2 : (z == 0) = false := by rw [beq_eq_false_iff_ne]; exact hz
                  have hT := Lib.hid (show R = z by rw [← hr2]; exact alL_ne _ _ hz)
                  clear hr2 hz
                  go_wp2_with (go_at_call 30; (with_reducible refine (HC.out).mono ?_); rintro e' w2 ⟨rfl, hb2⟩; have HB2 := Lib.hid hb2; clear hb2)
                  go_ret
                  exact ⟨by rw [hT.out]; rfl, hb0.out.trans (HB2.out.mono hb0.out.size)⟩
          · go_enter Tryz.func30, Tryz.ntmps30
            go_wp2_with (first | (go_at_call 59; (with_reducible refine (HK.out).mono ?_); rintro e w1 ⟨rfl, hb1⟩; have HBX := Lib.hid (HBB.out _ hb1); obtain ⟨⟨x0, x1, x2, x3, x4⟩, y0, y1, y2, y3, y4⟩ := bx_all (HY.out.below hb1); clear hb1) | (go_at_call 60; (with_reducible refine (HNM.out _).mono ?_); rintro e w2 ⟨rfl, rfl⟩))
            clear x0 x1 x2 x3 x4 y0 y1 y2 y3 y4
            go_loopw [3] (fun iv wr => ∃ (q : Nat) (dn r : Fo), Hid (kids = dn.app r) ∧ Hid (dn.len = q) ∧ iv = .int .i64 q ∧ Hid (alL r 0 = R) ∧ Hid (Below (w.heap.size + 1) (w.alloc (obj5 _ l A kids.len c mn mx)) wr)) (fun iv _ => kids.len - (RowKit.intOf iv).toNat)
            case atStart => exact ⟨0, .nil, kids, Lib.hid rfl, Lib.hid rfl, rfl, HT, HBX⟩
            case round =>
              obtain ⟨q, dn, r, hk, hq, rfl, hr, hb⟩ := hrel
              have hlen := Lib.hid (show kids.len = q + r.len by rw [hk.out, Fo.app_len, hq.out])
              have hb0 := Lib.hid (box_below hb.out)
              obtain ⟨hx0, hx1, hx2, hx3, hx4⟩ := box_cells _ _ _ _ _ _ _ hb.out
              clear hx0 hx1 hx3 hx4
              cases r with
              | nil =>
                have hlt : ¬ (q : Int) < kids.len := by have := hlen.out; simp only [Fo.len] at this; omega
                have hT := Lib.hid (show R = 0 from hr.out.symm)
                go_wp2_with fail
                go_ret
                exact ⟨by rw [hT.out]; rfl, hb0.out⟩
              | cons k1 l1 d1 mn1 mx1 r1 =>
                have hlt : (q : Int) < kids.len := by have := hlen.out; simp only [Fo.len] at this; omega
                have hq0 : (0 : Int) ≤ q := by omega
                have hk3 : kids = dn.app (.cons k1 l1 d1 mn1 mx1 r1) := hk.out
                obtain ⟨b0, o0, rfl⟩ := at_shape HA.out (by have := hlen.out; simp only [Fo.len] at this; omega)
                have h3 := HA.out.below hb0.out
                rw [hk3] at h3
                obtain ⟨K1, c1, hcel, hc3, hc4, hat1⟩ := h3.nth hq.out
                obtain ⟨e0, e1, e2, e3, e4⟩ := hcel
                have hsz : d1.sz < n ∧ d1.sz ≤ 1000000 := by
                  have h5 := congrArg Fo.sz hk3
                  rw [Fo.app_sz] at h5
                  have h6 := HN.out
                  have h7 := HMX.out
                  simp only [Fo.sz] at h5
                  omega
                have hlk : Lb (.cons k1 l1 d1 mn1 mx1 .nil) := by
                  have h5 := HLB.out
                  rw [hk3] at h5
                  have h6 := Lb.app h5
                  exact ⟨h6.1, h6.2.1, trivial⟩
                have HC := Lib.hid (IH.out ⟨k1, l1, K1, c1, mn1, mx1, d1⟩ X wr hsz.1 hsz.2 hlk ⟨hc3, hc4, hat1⟩)
                simp only at HC
                have hkk := Lib.hid (show kids = (dn.app (.cons k1 l1 d1 mn1 mx1 .nil)).app r1 by rw [hk3, Fo.app_assoc]; rfl)
                have hqq := Lib.hid (show (dn.app (.cons k1 l1 d1 mn1 mx1 .nil)).len = q + 1 by rw [Fo.app_len, hq.out]; rfl)
                have hr2 := hr.out
                rw [alL_cons, if_pos rfl] at hr2
                have hws := Lib.hid (show w.heap.size + 1 ≤ wr.heap.size by have := hb.out.size; rw [HSZ.out] at this; exact this)
                clear hsz hat1 h3 hk3 hlk
                generalize allE k1 l1 d1 mn1 mx1 = z at *
                by_cases hz : z = 0
                · subst hz
                  have hr3 := Lib.hid hr2
                  clear hr2
                  go_wp2_with (go_at_call 30; (with_reducible refine (HC.out).mono ?_); rintro e' w2 ⟨rfl, hb2⟩; have HB2 := Lib.hid hb2; clear hb2)
                  exact ⟨⟨q + 1, _, r1, hkk, hqq, by go_num, hr3, Lib.hid (hb.out.trans (HB2.out.mono hws.out))⟩, by simp [RowKit.intOf] <;> omega⟩
                · have tz : (z != 0) = true := by rw [bne_iff_ne]; exact hz
                  have tz2 : (z == 0) = false := by rw [beq_eq_false_iff_ne]; exact hz
                  have hT := Lib.hid (show R = z by rw [← hr2]; exact alL_ne _ _ hz)
                  clear hr2 hz
                  go_wp2_with (go_at_call 30; (with_reducible refine (HC.out).mono ?_); rintro e' w2 ⟨rfl, hb2⟩; have HB2 := Lib.hid hb2; clear hb2)
                  go_ret
                  exact ⟨by rw [hT.out]; rfl, hb0.out.trans (HB2.out.mono hb0.out.size)⟩
      · have t2 : (k == 2) = false := by rw [beq_eq_false_iff_ne]; omega
        have t3 : (k == 3) = false := by rw [beq_eq_false_iff_ne]; omega
        by_cases h9 : k = 9
        · subst h9
          clear t2 t3
          by_cases ha0 : mn < 0
          · have ta : decide (mn < 0) = true := decide_eq_true ha0
            have hrb : repB mn mx = true := by unfold repB; simp_all
            have HT := Lib.hid (show R = 1 by rw [← HR.out, HALL.out, HONE.out, hrk, if_neg (by decide), if_neg h23, if_pos rfl, hrb, if_pos rfl]; exact alL_ne _ _ (by decide))
            clear hrk HONE HALL HR hrb h23 ha0
            go_enter Tryz.func30, Tryz.ntmps30
            go_wp2_with (first | (go_at_call 59; (with_reducible refine (HK.out).mono ?_); rintro e w1 ⟨rfl, hb1⟩; have HBX := Lib.hid (HBB.out _ hb1); obtain ⟨⟨x0, x1, x2, x3, x4⟩, y0, y1, y2, y3, y4⟩ := bx_all (HY.out.below hb1); clear hb1))
            go_ret
            exact ⟨by rw [HT.out]; rfl, box_below HBX.out⟩
          · by_cases hb0 : 8 < mn
            · have ta : decide (mn < 0) = false := decide_eq_false ha0
              have tb : decide (mn > 8) = true := decide_eq_true hb0
              have hrb : repB mn mx = true := by unfold repB; simp_all
              have HT := Lib.hid (show R = 1 by rw [← HR.out, HALL.out, HONE.out, hrk, if_neg (by decide), if_neg h23, if_pos rfl, hrb, if_pos rfl]; exact alL_ne _ _ (by decide))
              clear hrk HONE HALL HR hrb h23 ha0 hb0
              go_enter Tryz.func30, Tryz.ntmps30
              go_wp2_with (first | (go_at_call 59; (with_reducible refine (HK.out).mono ?_); rintro e w1 ⟨rfl, hb1⟩; have HBX := Lib.hid (HBB.out _ hb1); obtain ⟨⟨x0, x1, x2, x3, x4⟩, y0, y1, y2, y3, y4⟩ := bx_all (HY.out.below hb1); clear hb1))
              go_ret
              exact ⟨by rw [HT.out]; rfl, box_below HBX.out⟩
            · by_cases hc0 : mx = -1
              · have ta : decide (mn < 0) = false := decide_eq_false ha0
                have tb : decide (mn > 8) = false := decide_eq_false hb0
                have tc : (mx != -1) = false := by rw [hc0]; rfl
                have hrb : repB mn mx = false := by unfold repB; simp_all
                have HT := Lib.hid (show alL kids 0 = R by rw [← HR.out, HALL.out, HONE.out, hrk, if_neg (by decide), if_neg h23, if_pos rfl, hrb, if_neg (by decide)])
                clear hrk HONE HALL HR hrb h23 ha0 hb0 hc0
                go_enter Tryz.func30, Tryz.ntmps30
                go_wp2_with (first | (go_at_call 59; (with_reducible refine (HK.out).mono ?_); rintro e w1 ⟨rfl, hb1⟩; have HBX := Lib.hid (HBB.out _ hb1); obtain ⟨⟨x0, x1, x2, x3, x4⟩, y0, y1, y2, y3, y4⟩ := bx_all (HY.out.below hb1); clear hb1))
                clear x0 x1 x2 x3 x4 y0 y1 y2 y3 y4
                go_loopw [3] (fun iv wr => ∃ (q : Nat) (dn r : Fo), Hid (kids = dn.app r) ∧ Hid (dn.len = q) ∧ iv = .int .i64 q ∧ Hid (alL r 0 = R) ∧ Hid (Below (w.heap.size + 1) (w.alloc (obj5 _ l A kids.len c mn mx)) wr)) (fun iv _ => kids.len - (RowKit.intOf iv).toNat)
                case atStart => exact ⟨0, .nil, kids, Lib.hid rfl, Lib.hid rfl, rfl, HT, HBX⟩
                case round =>
                  obtain ⟨q, dn, r, hk, hq, rfl, hr, hb⟩ := hrel
                  have hlen := Lib.hid (show kids.len = q + r.len by rw [hk.out, Fo.app_len, hq.out])
                  have hb0 := Lib.hid (box_below hb.out)
                  obtain ⟨hx0, hx1, hx2, hx3, hx4⟩ := box_cells _ _ _ _ _ _ _ hb.out
                  clear hx0 hx1 hx3 hx4
                  cases r with
                  | nil =>
                    have hlt : ¬ (q : Int) < kids.len := by have := hlen.out; simp only [Fo.len] at this; omega
                    have hT := Lib.hid (show R = 0 from hr.out.symm)
                    go_wp2_with fail
                    go_ret
                    exact ⟨by rw [hT.out]; rfl, hb0.out⟩
                  | cons k1 l1 d1 mn1 mx1 r1 =>
                    have hlt : (q : Int) < kids.len := by have := hlen.out; simp only [Fo.len] at this; omega
                    have hq0 : (0 : Int) ≤ q := by omega
                    have hk3 : kids = dn.app (.cons k1 l1 d1 mn1 mx1 r1) := hk.out
                    obtain ⟨b0, o0, rfl⟩ := at_shape HA.out (by have := hlen.out; simp only [Fo.len] at this; omega)
                    have h3 := HA.out.below hb0.out
                    rw [hk3] at h3
                    obtain ⟨K1, c1, hcel, hc3, hc4, hat1⟩ := h3.nth hq.out
                    obtain ⟨e0, e1, e2, e3, e4⟩ := hcel
                    have hsz : d1.sz < n ∧ d1.sz ≤ 1000000 := by
                      have h5 := congrArg Fo.sz hk3
                      rw [Fo.app_sz] at h5
                      have h6 := HN.out
                      have h7 := HMX.out
                      simp only [Fo.sz] at h5
                      omega
                    have hlk : Lb (.cons k1 l1 d1 mn1 mx1 .nil) := by
                      have h5 := HLB.out
                      rw [hk3] at h5
                      have h6 := Lb.app h5
                      exact ⟨h6.1, h6.2.1, trivial⟩
                    have HC := Lib.hid (IH.out ⟨k1, l1, K1, c1, mn1, mx1, d1⟩ X wr hsz.1 hsz.2 hlk ⟨hc3, hc4, hat1⟩)
                    simp only at HC
                    have hkk := Lib.hid (show kids = (dn.app (.cons k1 l1 d1 mn1 mx1 .nil)).app r1 by rw [hk3, Fo.app_assoc]; rfl)
                    have hqq := Lib.hid (show (dn.app (.cons k1 l1 d1 mn1 mx1 .nil)).len = q + 1 by rw [Fo.app_len, hq.out]; rfl)
                    have hr2 := hr.out
                    rw [alL_cons, if_pos rfl] at hr2
                    have hws := Lib.hid (show w.heap.size + 1 ≤ wr.heap.size by have := hb.out.size; rw [HSZ.out] at this; exact this)
                    clear hsz hat1 h3 hk3 hlk
                    generalize allE k1 l1 d1 mn1 mx1 = z at *
                    by_cases hz : z = 0
                    · subst hz
                      have hr3 := Lib.hid hr2
                      clear hr2
                      go_wp2_with (go_at_call 30; (with_reducible refine (HC.out).mono ?_); rintro e' w2 ⟨rfl, hb2⟩; have HB2 := Lib.hid hb2; clear hb2)
                      exact ⟨⟨q + 1, _, r1, hkk, hqq, by go_num, hr3, Lib.hid (hb.out.trans (HB2.out.mono hws.out))⟩, by simp [RowKit.intOf] <;> omega⟩
                    · have tz : (z != 0) = true := by rw [bne_iff_ne]; exact hz
                      have tz2 : (z == 0) = false := by rw [beq_eq_false_iff_ne]; exact hz
                      have hT := Lib.hid (show R = z by rw [← hr2]; exact alL_ne _ _ hz)
                      clear hr2 hz
                      go_wp2_with (go_at_call 30; (with_reducible refine (HC.out).mono ?_); rintro e' w2 ⟨rfl, hb2⟩; have HB2 := Lib.hid hb2; clear hb2)
                      go_ret
                      exact ⟨by rw [hT.out]; rfl, hb0.out.trans (HB2.out.mono hb0.out.size)⟩
              · by_cases hd0 : mx < mn
                · have ta : decide (mn < 0) = false := decide_eq_false ha0
                  have tb : decide (mn > 8) = false := decide_eq_false hb0
                  have tc : (mx != -1) = true := by rw [bne_iff_ne]; exact hc0
                  have td : decide (mx < mn) = true := decide_eq_true hd0
                  have hrb : repB mn mx = true := by unfold repB; simp_all
                  have HT := Lib.hid (show R = 1 by rw [← HR.out, HALL.out, HONE.out, hrk, if_neg (by decide), if_neg h23, if_pos rfl, hrb, if_pos rfl]; exact alL_ne _ _ (by decide))
                  clear hrk HONE HALL HR hrb h23 ha0 hb0 hc0 hd0
                  go_enter Tryz.func30, Tryz.ntmps30
                  go_wp2_with (first | (go_at_call 59; (with_reducible refine (HK.out).mono ?_); rintro e w1 ⟨rfl, hb1⟩; have HBX := Lib.hid (HBB.out _ hb1); obtain ⟨⟨x0, x1, x2, x3, x4⟩, y0, y1, y2, y3, y4⟩ := bx_all (HY.out.below hb1); clear hb1))
                  go_ret
                  exact ⟨by rw [HT.out]; rfl, box_below HBX.out⟩
                · by_cases he0 : mx < 1
                  · have ta : decide (mn < 0) = false := decide_eq_false ha0
                    have tb : decide (mn > 8) = false := decide_eq_false hb0
                    have tc : (mx != -1) = true := by rw [bne_iff_ne]; exact hc0
                    have td : decide (mx < mn) = false := decide_eq_false hd0
                    have te : decide (mx < 1) = true := decide_eq_true he0
                    have hrb : repB mn mx = true := by unfold repB; simp_all
                    have HT := Lib.hid (show R = 1 by rw [← HR.out, HALL.out, HONE.out, hrk, if_neg (by decide), if_neg h23, if_pos rfl, hrb, if_pos rfl]; exact alL_ne _ _ (by decide))
                    clear hrk HONE HALL HR hrb h23 ha0 hb0 hc0 hd0 he0
                    go_enter Tryz.func30, Tryz.ntmps30
                    go_wp2_with (first | (go_at_call 59; (with_reducible refine (HK.out).mono ?_); rintro e w1 ⟨rfl, hb1⟩; have HBX := Lib.hid (HBB.out _ hb1); obtain ⟨⟨x0, x1, x2, x3, x4⟩, y0, y1, y2, y3, y4⟩ := bx_all (HY.out.below hb1); clear hb1))
                    go_ret
                    exact ⟨by rw [HT.out]; rfl, box_below HBX.out⟩
                  · by_cases hf0 : 8 < mx
                    · have ta : decide (mn < 0) = false := decide_eq_false ha0
                      have tb : decide (mn > 8) = false := decide_eq_false hb0
                      have tc : (mx != -1) = true := by rw [bne_iff_ne]; exact hc0
                      have td : decide (mx < mn) = false := decide_eq_false hd0
                      have te : decide (mx < 1) = false := decide_eq_false he0
                      have tf : decide (mx > 8) = true := decide_eq_true hf0
                      have hrb : repB mn mx = true := by unfold repB; simp_all
                      have HT := Lib.hid (show R = 1 by rw [← HR.out, HALL.out, HONE.out, hrk, if_neg (by decide), if_neg h23, if_pos rfl, hrb, if_pos rfl]; exact alL_ne _ _ (by decide))
                      clear hrk HONE HALL HR hrb h23 ha0 hb0 hc0 hd0 he0 hf0
                      go_enter Tryz.func30, Tryz.ntmps30
                      go_wp2_with (first | (go_at_call 59; (with_reducible refine (HK.out).mono ?_); rintro e w1 ⟨rfl, hb1⟩; have HBX := Lib.hid (HBB.out _ hb1); obtain ⟨⟨x0, x1, x2, x3, x4⟩, y0, y1, y2, y3, y4⟩ := bx_all (HY.out.below hb1); clear hb1))
                      go_ret
                      exact ⟨by rw [HT.out]; rfl, box_below HBX.out⟩
                    · have ta : decide (mn < 0) = false := decide_eq_false ha0
                      have tb : decide (mn > 8) = false := decide_eq_false hb0
                      have tc : (mx != -1) = true := by rw [bne_iff_ne]; exact hc0
                      have td : decide (mx < mn) = false := decide_eq_false hd0
                      have te : decide (mx < 1) = false := decide_eq_false he0
                      have tf : decide (mx > 8) = false := decide_eq_false hf0
                      have hrb : repB mn mx = false := by unfold repB; simp_all
                      have HT := Lib.hid (show alL kids 0 = R by rw [← HR.out, HALL.out, HONE.out, hrk, if_neg (by decide), if_neg h23, if_pos rfl, hrb, if_neg (by decide)])
                      clear hrk HONE HALL HR hrb h23 ha0 hb0 hc0 hd0 he0 hf0
                      go_enter Tryz.func30, Tryz.ntmps30
                      go_wp2_with (first | (go_at_call 59; (with_reducible refine (HK.out).mono ?_); rintro e w1 ⟨rfl, hb1⟩; have HBX := Lib.hid (HBB.out _ hb1); obtain ⟨⟨x0, x1, x2, x3, x4⟩, y0, y1, y2, y3, y4⟩ := bx_all (HY.out.below hb1); clear hb1))
                      clear x0 x1 x2 x3 x4 y0 y1 y2 y3 y4
                      go_loopw [3] (fun iv wr => ∃ (q : Nat) (dn r : Fo), Hid (kids = dn.app r) ∧ Hid (dn.len = q) ∧ iv = .int .i64 q ∧ Hid (alL r 0 = R) ∧ Hid (Below (w.heap.size + 1) (w.alloc (obj5 _ l A kids.len c mn mx)) wr)) (fun iv _ => kids.len - (RowKit.intOf iv).toNat)
                      case atStart => exact ⟨0, .nil, kids, Lib.hid rfl, Lib.hid rfl, rfl, HT, HBX⟩
                      case round =>
                        obtain ⟨q, dn, r, hk, hq, rfl, hr, hb⟩ := hrel
                        have hlen := Lib.hid (show kids.len = q + r.len by rw [hk.out, Fo.app_len, hq.out])
                        have hb0 := Lib.hid (box_below hb.out)
                        obtain ⟨hx0, hx1, hx2, hx3, hx4⟩ := box_cells _ _ _ _ _ _ _ hb.out
                        clear hx0 hx1 hx3 hx4
                        cases r with
                        | nil =>
                          have hlt : ¬ (q : Int) < kids.len := by have := hlen.out; simp only [Fo.len] at this; omega
                          have hT := Lib.hid (show R = 0 from hr.out.symm)
                          go_wp2_with fail
                          go_ret
                          exact ⟨by rw [hT.out]; rfl, hb0.out⟩
                        | cons k1 l1 d1 mn1 mx1 r1 =>
                          have hlt : (q : Int) < kids.len := by have := hlen.out; simp only [Fo.len] at this; omega
                          have hq0 : (0 : Int) ≤ q := by omega
                          have hk3 : kids = dn.app (.cons k1 l1 d1 mn1 mx1 r1) := hk.out
                          obtain ⟨b0, o0, rfl⟩ := at_shape HA.out (by have := hlen.out; simp only [Fo.len] at this; omega)
                          have h3 := HA.out.below hb0.out
                          rw [hk3] at h3
                          obtain ⟨K1, c1, hcel, hc3, hc4, hat1⟩ := h3.nth hq.out
                          obtain ⟨e0, e1, e2, e3, e4⟩ := hcel
                          have hsz : d1.sz < n ∧ d1.sz ≤ 1000000 := by
                            have h5 := congrArg Fo.sz hk3
                            rw [Fo.app_sz] at h5
                            have h6 := HN.out
                            have h7 := HMX.out
                            simp only [Fo.sz] at h5
                            omega
                          have hlk : Lb (.cons k1 l1 d1 mn1 mx1 .nil) := by
                            have h5 := HLB.out
                            rw [hk3] at h5
                            have h6 := Lb.app h5
                            exact ⟨h6.1, h6.2.1, trivial⟩
                          have HC := Lib.hid (IH.out ⟨k1, l1, K1, c1, mn1, mx1, d1⟩ X wr hsz.1 hsz.2 hlk ⟨hc3, hc4, hat1⟩)
                          simp only at HC
                          have hkk := Lib.hid (show kids = (dn.app (.cons k1 l1 d1 mn1 mx1 .nil)).app r1 by rw [hk3, Fo.app_assoc]; rfl)
                          have hqq := Lib.hid (show (dn.app (.cons k1 l1 d1 mn1 mx1 .nil)).len = q + 1 by rw [Fo.app_len, hq.out]; rfl)
                          have hr2 := hr.out
                          rw [alL_cons, if_pos rfl] at hr2
                          have hws := Lib.hid (show w.heap.size + 1 ≤ wr.heap.size by have := hb.out.size; rw [HSZ.out] at this; exact this)
                          clear hsz hat1 h3 hk3 hlk
                          generalize allE k1 l1 d1 mn1 mx1 = z at *
                          by_cases hz : z = 0
                          · subst hz
                            have hr3 := Lib.hid hr2
                            clear hr2
                            go_wp2_with (go_at_call 30; (with_reducible refine (HC.out).mono ?_); rintro e' w2 ⟨rfl, hb2⟩; have HB2 := Lib.hid hb2; clear hb2)
                            exact ⟨⟨q + 1, _, r1, hkk, hqq, by go_num, hr3, Lib.hid (hb.out.trans (HB2.out.mono hws.out))⟩, by simp [RowKit.intOf] <;> omega⟩
                          · have tz : (z != 0) = true := by rw [bne_iff_ne]; exact hz
                            have tz2 : (z == 0) = false := by rw [beq_eq_false_iff_ne]; exact hz
                            have hT := Lib.hid (show R = z by rw [← hr2]; exact alL_ne _ _ hz)
                            clear hr2 hz
                            go_wp2_with (go_at_call 30; (with_reducible refine (HC.out).mono ?_); rintro e' w2 ⟨rfl, hb2⟩; have HB2 := Lib.hid hb2; clear hb2)
                            go_ret
                            exact ⟨by rw [hT.out]; rfl, hb0.out.trans (HB2.out.mono hb0.out.size)⟩
        · have t9 : (k == 9) = false := by rw [beq_eq_false_iff_ne]; omega
          have HT := Lib.hid (show alL kids 0 = R by rw [← HR.out, HALL.out, HONE.out, hrk, if_neg (by decide), if_neg h23, if_neg h9])
          clear hrk HONE HALL HR h23 h9
          go_enter Tryz.func30, Tryz.ntmps30
          go_wp2_with (first | (go_at_call 59; (with_reducible refine (HK.out).mono ?_); rintro e w1 ⟨rfl, hb1⟩; have HBX := Lib.hid (HBB.out _ hb1); obtain ⟨⟨x0, x1, x2, x3, x4⟩, y0, y1, y2, y3, y4⟩ := bx_all (HY.out.below hb1); clear hb1))
          clear x0 x1 x2 x3 x4 y0 y1 y2 y3 y4
          go_loopw [3] (fun iv wr => ∃ (q : Nat) (dn r : Fo), Hid (kids = dn.app r) ∧ Hid (dn.len = q) ∧ iv = .int .i64 q ∧ Hid (alL r 0 = R) ∧ Hid (Below (w.heap.size + 1) (w.alloc (obj5 _ l A kids.len c mn mx)) wr)) (fun iv _ => kids.len - (RowKit.intOf iv).toNat)
          case atStart => exact ⟨0, .nil, kids, Lib.hid rfl, Lib.hid rfl, rfl, HT, HBX⟩
          case round =>
            obtain ⟨q, dn, r, hk, hq, rfl, hr, hb⟩ := hrel
            have hlen := Lib.hid (show kids.len = q + r.len by rw [hk.out, Fo.app_len, hq.out])
            have hb0 := Lib.hid (box_below hb.out)
            obtain ⟨hx0, hx1, hx2, hx3, hx4⟩ := box_cells _ _ _ _ _ _ _ hb.out
            clear hx0 hx1 hx3 hx4
            cases r with
            | nil =>
              have hlt : ¬ (q : Int) < kids.len := by have := hlen.out; simp only [Fo.len] at this; omega
              have hT := Lib.hid (show R = 0 from hr.out.symm)
              go_wp2_with fail
              go_ret
              exact ⟨by rw [hT.out]; rfl, hb0.out⟩
            | cons k1 l1 d1 mn1 mx1 r1 =>
              have hlt : (q : Int) < kids.len := by have := hlen.out; simp only [Fo.len] at this; omega
              have hq0 : (0 : Int) ≤ q := by omega
              have hk3 : kids = dn.app (.cons k1 l1 d1 mn1 mx1 r1) := hk.out
              obtain ⟨b0, o0, rfl⟩ := at_shape HA.out (by have := hlen.out; simp only [Fo.len] at this; omega)
              have h3 := HA.out.below hb0.out
              rw [hk3] at h3
              obtain ⟨K1, c1, hcel, hc3, hc4, hat1⟩ := h3.nth hq.out
              obtain ⟨e0, e1, e2, e3, e4⟩ := hcel
              have hsz : d1.sz < n ∧ d1.sz ≤ 1000000 := by
                have h5 := congrArg Fo.sz hk3
                rw [Fo.app_sz] at h5
                have h6 := HN.out
                have h7 := HMX.out
                simp only [Fo.sz] at h5
                omega
              have hlk : Lb (.cons k1 l1 d1 mn1 mx1 .nil) := by
                have h5 := HLB.out
                rw [hk3] at h5
                have h6 := Lb.app h5
                exact ⟨h6.1, h6.2.1, trivial⟩
              have HC := Lib.hid (IH.out ⟨k1, l1, K1, c1, mn1, mx1, d1⟩ X wr hsz.1 hsz.2 hlk ⟨hc3, hc4, hat1⟩)
              simp only at HC
              have hkk := Lib.hid (show kids = (dn.app (.cons k1 l1 d1 mn1 mx1 .nil)).app r1 by rw [hk3, Fo.app_assoc]; rfl)
              have hqq := Lib.hid (show (dn.app (.cons k1 l1 d1 mn1 mx1 .nil)).len = q + 1 by rw [Fo.app_len, hq.out]; rfl)
              have hr2 := hr.out
              rw [alL_cons, if_pos rfl] at hr2
              have hws := Lib.hid (show w.heap.size + 1 ≤ wr.heap.size by have := hb.out.size; rw [HSZ.out] at this; exact this)
              clear hsz hat1 h3 hk3 hlk
              generalize allE k1 l1 d1 mn1 mx1 = z at *
              by_cases hz : z = 0
              · subst hz
                have hr3 := Lib.hid hr2
                clear hr2
                go_wp2_with (go_at_call 30; (with_reducible refine (HC.out).mono ?_); rintro e' w2 ⟨rfl, hb2⟩; have HB2 := Lib.hid hb2; clear hb2)
                exact ⟨⟨q + 1, _, r1, hkk, hqq, by go_num, hr3, Lib.hid (hb.out.trans (HB2.out.mono hws.out))⟩, by simp [RowKit.intOf] <;> omega⟩
              · have tz : (z != 0) = true := by rw [bne_iff_ne]; exact hz
                have tz2 : (z == 0) = false := by rw [beq_eq_false_iff_ne]; exact hz
                have hT := Lib.hid (show R = z by rw [← hr2]; exact alL_ne _ _ hz)
                clear hr2 hz
                go_wp2_with (go_at_call 30; (with_reducible refine (HC.out).mono ?_); rintro e' w2 ⟨rfl, hb2⟩; have HB2 := Lib.hid hb2; clear hb2)
                go_ret
                exact ⟨by rw [hT.out]; rfl, hb0.out.trans (HB2.out.mono hb0.out.size)⟩
end Go.Proofs.YtpaehicfndkliaaGreatDoor.De


/- The walks of the document's 'size', 'Size', 'Check'. Condition: the path can be read; it is not too great. -/
namespace Go.Proofs.YtpaehicfndkliaaGreatDoor.De
open Go.RowKit Go.Lib Na Go.PN Pa

theorem div_lt_iff {t S : Int} (ht : 0 < t) (hS : 0 < S) : (1099511627776 : Int) / S < t ↔ 1099511627776 < t * S := by
  rw [Int.ediv_lt_iff_lt_mul hS]
theorem times_big {t S : Int} (ht : 0 < t) (hS : 0 < S) (h : (1099511627776 : Int) / S < t) : timesI t S = 1099511627776 := by
  unfold timesI
  rw [if_pos ⟨ht, (div_lt_iff hS ht).2 (by rw [Int.mul_comm]; exact (div_lt_iff ht hS).1 h)⟩]
theorem times_small {t S : Int} (ht : 0 < t) (h0 : 0 ≤ S) (h : t * S ≤ 1099511627776) : timesI t S = t * S := by
  unfold timesI
  rw [if_neg, Int.max_eq_left (by omega)]
  rintro ⟨_, h2⟩
  by_cases hS : 0 < S
  · have := (div_lt_iff hS ht).1 h2
    rw [Int.mul_comm] at this
    omega
  · have : S = 0 := by omega
    subst this
    have : (0 : Int) ≤ 1099511627776 / t := Int.ediv_nonneg (by decide) (by omega)
    omega
theorem val_app {f g : Fo} (h : Val (f.app g)) : Val g := by
  induction f with
  | nil => exact h
  | cons k l d mn mx r _ ih => exact ih h.cons.2.2
theorem Val.single1 {k : Int} {l : ByteArray} {d : Fo} {mn mx : Int} {r : Fo} (h : Val (.cons k l d mn mx r)) : Val (.cons k l d mn mx .nil) := Val.mk h.cons.1 h.cons.2.1 rfl
theorem dpS_app (f g : Fo) : dpS (f.app g) = max (dpS f) (dpS g) := by
  induction f with
  | nil => have := dpS_ge g; rw [Fo.app, dpS]; omega
  | cons k l d mn mx r _ ih => rw [Fo.app, dpS, dpS, ih]; omega
set_option maxRecDepth 100000 in
set_option maxHeartbeats 16000000 in
theorem rsize_1 (n : Nat) (ih : ∀ (a : Nd) (X : List Nat) (at_ : Int) (w : World), a.kids.sz < n → a.ok w X → Val (a.fo .nil) → at_ + dpS a.kids ≤ 39 → 0 ≤ at_ → Calls Tryz.prog 31 #[a.v, .int .i64 at_] w fun e w' => e = .returned (.int .i64 (sizeF a.k a.kids a.mn a.mx)) ∧ Below w.heap.size w w')
    (l : ByteArray) (A : Option Addr) (c : Nat) (mn mx : Int) (kids : Fo) (X : List Nat) (at_ : Int) (w : World) (hn : kids.sz ≤ n) (hc : kids.len ≤ c) (hc2 : c ≤ 9223372036854775807) (hat : At w X kids A) (hv : Val (.cons 1 l kids mn mx .nil)) (hd : at_ + dpS kids ≤ 39) (h0 : 0 ≤ at_) :
    Calls Tryz.prog 31 #[.agg #[.int .i64 1, .string l, .slice A kids.len c, .int .i64 mn, .int .i64 mx], .int .i64 at_] w fun e w' => e = .returned (.int .i64 (sizeF 1 kids mn mx)) ∧ Below w.heap.size w w' := by
  have HN := Lib.hid hn
  have HA := Lib.hid hat
  have IH := Lib.hid ih
  have HV := Lib.hid hv.cons.2.1
  have HONE := Lib.hid (trivial)
  have HD := Lib.hid hd
  have HSM := Lib.hid (fun a b w ha hb => rsum_any a b w ha hb)
  have hdg := dpS_ge kids
  have ta : decide (at_ ≥ 40) = false := decide_eq_false (by omega)
  have hat39 : at_ ≤ 39 := by omega
  have HSZ := Lib.hid (show (w.alloc (obj5 1 l A kids.len c mn mx)).heap.size = w.heap.size + 1 by simp)
  obtain ⟨R, hR⟩ : ∃ R, sizeF 1 kids mn mx = R := ⟨_, rfl⟩
  have HR := Lib.hid hR
  rw [hR]
  clear hat hn ih hv hd hR hdg
  go_enter Tryz.func31, Tryz.ntmps31
  go_wp2_with fail
  go_loopw [5, 6] (fun nv iv wr => ∃ (q : Nat) (dn r : Fo) (m : Int), Hid (kids = dn.app r) ∧ Hid (dn.len = q) ∧ iv = .int .i64 q ∧ nv = .int .i64 m ∧ 0 ≤ m ∧ m ≤ 1099511627776 ∧ Hid (szL r m = szL kids 0) ∧ Hid (Below (w.heap.size + 1) (w.alloc (obj5 1 l A kids.len c mn mx)) wr)) (fun _ iv _ => kids.len - (RowKit.intOf iv).toNat)
  case atStart => exact ⟨0, .nil, kids, 0, Lib.hid rfl, Lib.hid rfl, rfl, rfl, Int.le_refl _, by decide, Lib.hid rfl, Lib.hid (Below.refl _ _)⟩
  case round =>
    obtain ⟨q, dn, r, m, hk, hq, rfl, rfl, hm1, hm2, hrl, hb⟩ := hrel
    have hlen := Lib.hid (show kids.len = q + r.len by rw [hk.out, Fo.app_len, hq.out])
    have hb0 := Lib.hid (box_below hb.out)
    obtain ⟨hx0, hx1, hx2, hx3, hx4⟩ := box_cells _ _ _ _ _ _ _ hb.out
    clear hx1
    cases r with
    | cons k1 l1 d1 mn1 mx1 r1 =>
      clear hx0 hx3 hx4
      have hlt : (q : Int) < kids.len := by have := hlen.out; simp only [Fo.len] at this; omega
      have hq0 : (0 : Int) ≤ q := by omega
      have hk3 : kids = dn.app (.cons k1 l1 d1 mn1 mx1 r1) := hk.out
      obtain ⟨b0, o0, rfl⟩ := at_shape HA.out (by have := hlen.out; simp only [Fo.len] at this; omega)
      have h3 := HA.out.below hb0.out
      rw [hk3] at h3
      obtain ⟨K1, c1, hcel, hc3, hc4, hat1⟩ := h3.nth hq.out
      obtain ⟨e0, e1, e2, e3, e4⟩ := hcel
      have hsz : d1.sz < n := by
        have h5 := congrArg Fo.sz hk3
        rw [Fo.app_sz] at h5
        have h6 := HN.out
        simp only [Fo.sz] at h5
        omega
      have hvv : Val (.cons k1 l1 d1 mn1 mx1 .nil) := by
        have h5 := HV.out
        rw [hk3] at h5
        exact (val_app h5).single1
      have hdd : at_ + 1 + dpS d1 ≤ 39 := by
        have h5 := HD.out
        rw [hk3, dpS_app, dpS] at h5
        omega
      have HC := Lib.hid (IH.out ⟨k1, l1, K1, c1, mn1, mx1, d1⟩ X (at_ + 1) wr hsz ⟨hc3, hc4, hat1⟩ hvv hdd (by omega))
      unfold Nd.v at HC
      simp only at HC
      have hkk := Lib.hid (show kids = (dn.app (.cons k1 l1 d1 mn1 mx1 .nil)).app r1 by rw [hk3, Fo.app_assoc]; rfl)
      have hqq := Lib.hid (show (dn.app (.cons k1 l1 d1 mn1 mx1 .nil)).len = q + 1 by rw [Fo.app_len, hq.out]; rfl)
      have hr2 := hrl.out
      rw [szL_cons] at hr2
      obtain ⟨hz1, hz2⟩ := sizeF_rng k1 d1 mn1 mx1
      have hws := Lib.hid (show w.heap.size + 1 ≤ wr.heap.size by have := hb.out.size; rw [HSZ.out] at this; exact this)
      generalize sizeF k1 d1 mn1 mx1 = z at *
      have hr3 := Lib.hid hr2
      have hsm1 : 0 ≤ min (m + z) 1099511627776 := by omega
      have hsm2 : min (m + z) 1099511627776 ≤ 1099511627776 := by omega
      have HS1 := Lib.hid (fun w => HSM.out m z w ⟨hm1, hm2⟩ ⟨hz1, by omega⟩)
      clear hsz hat1 h3 hk3 hvv hdd hr2
      obtain ⟨zs, hzs⟩ : ∃ zs, min (m + z) 1099511627776 = zs := ⟨_, rfl⟩
      rw [hzs] at hr3 hsm1 hsm2 HS1
      clear hzs
      go_wp2_with (first
        | (go_at_call 31; (with_reducible refine (HC.out).mono ?_); rintro e' w2 ⟨rfl, hb2⟩; have HB2 := Lib.hid hb2; clear hb2)
        | (go_at_call 61; (with_reducible refine (HS1.out _).mono ?_); rintro e' w3 ⟨rfl, rfl⟩))
      exact ⟨⟨q + 1, _, r1, _, hkk, hqq, by go_num, rfl, hsm1, hsm2, hr3, Lib.hid (hb.out.trans (HB2.out.mono hws.out))⟩, by simp [RowKit.intOf] <;> omega⟩
    | nil =>
      have hlt : ¬ (q : Int) < kids.len := by have := hlen.out; simp only [Fo.len] at this; omega
      have hse := Lib.hid (show szL kids 0 = m from hrl.out.symm)
      have hfe := Lib.hid (show R = sizeI 1 m mn mx by rw [← HR.out]; unfold sizeF; rw [hse.out])
      have HT := Lib.hid (show R = 1 by rw [hfe.out]; rfl)
      go_wp2_with fail
      go_ret
      exact ⟨by rw [HT.out]; rfl, hb0.out⟩
set_option maxRecDepth 100000 in
set_option maxHeartbeats 16000000 in
theorem rsize_2 (n : Nat) (ih : ∀ (a : Nd) (X : List Nat) (at_ : Int) (w : World), a.kids.sz < n → a.ok w X → Val (a.fo .nil) → at_ + dpS a.kids ≤ 39 → 0 ≤ at_ → Calls Tryz.prog 31 #[a.v, .int .i64 at_] w fun e w' => e = .returned (.int .i64 (sizeF a.k a.kids a.mn a.mx)) ∧ Below w.heap.size w w')
    (l : ByteArray) (A : Option Addr) (c : Nat) (mn mx : Int) (kids : Fo) (X : List Nat) (at_ : Int) (w : World) (hn : kids.sz ≤ n) (hc : kids.len ≤ c) (hc2 : c ≤ 9223372036854775807) (hat : At w X kids A) (hv : Val (.cons 2 l kids mn mx .nil)) (hd : at_ + dpS kids ≤ 39) (h0 : 0 ≤ at_) :
    Calls Tryz.prog 31 #[.agg #[.int .i64 2, .string l, .slice A kids.len c, .int .i64 mn, .int .i64 mx], .int .i64 at_] w fun e w' => e = .returned (.int .i64 (sizeF 2 kids mn mx)) ∧ Below w.heap.size w w' := by
  have HN := Lib.hid hn
  have HA := Lib.hid hat
  have IH := Lib.hid ih
  have HV := Lib.hid hv.cons.2.1
  have HONE := Lib.hid (trivial)
  have HD := Lib.hid hd
  have HSM := Lib.hid (fun a b w ha hb => rsum_any a b w ha hb)
  have hdg := dpS_ge kids
  have ta : decide (at_ ≥ 40) = false := decide_eq_false (by omega)
  have hat39 : at_ ≤ 39 := by omega
  have HSZ := Lib.hid (show (w.alloc (obj5 2 l A kids.len c mn mx)).heap.size = w.heap.size + 1 by simp)
  obtain ⟨R, hR⟩ : ∃ R, sizeF 2 kids mn mx = R := ⟨_, rfl⟩
  have HR := Lib.hid hR
  rw [hR]
  clear hat hn ih hv hd hR hdg
  go_enter Tryz.func31, Tryz.ntmps31
  go_wp2_with fail
  go_loopw [5, 6] (fun nv iv wr => ∃ (q : Nat) (dn r : Fo) (m : Int), Hid (kids = dn.app r) ∧ Hid (dn.len = q) ∧ iv = .int .i64 q ∧ nv = .int .i64 m ∧ 0 ≤ m ∧ m ≤ 1099511627776 ∧ Hid (szL r m = szL kids 0) ∧ Hid (Below (w.heap.size + 1) (w.alloc (obj5 2 l A kids.len c mn mx)) wr)) (fun _ iv _ => kids.len - (RowKit.intOf iv).toNat)
  case atStart => exact ⟨0, .nil, kids, 0, Lib.hid rfl, Lib.hid rfl, rfl, rfl, Int.le_refl _, by decide, Lib.hid rfl, Lib.hid (Below.refl _ _)⟩
  case round =>
    obtain ⟨q, dn, r, m, hk, hq, rfl, rfl, hm1, hm2, hrl, hb⟩ := hrel
    have hlen := Lib.hid (show kids.len = q + r.len by rw [hk.out, Fo.app_len, hq.out])
    have hb0 := Lib.hid (box_below hb.out)
    obtain ⟨hx0, hx1, hx2, hx3, hx4⟩ := box_cells _ _ _ _ _ _ _ hb.out
    clear hx1
    cases r with
    | cons k1 l1 d1 mn1 mx1 r1 =>
      clear hx0 hx3 hx4
      have hlt : (q : Int) < kids.len := by have := hlen.out; simp only [Fo.len] at this; omega
      have hq0 : (0 : Int) ≤ q := by omega
      have hk3 : kids = dn.app (.cons k1 l1 d1 mn1 mx1 r1) := hk.out
      obtain ⟨b0, o0, rfl⟩ := at_shape HA.out (by have := hlen.out; simp only [Fo.len] at this; omega)
      have h3 := HA.out.below hb0.out
      rw [hk3] at h3
      obtain ⟨K1, c1, hcel, hc3, hc4, hat1⟩ := h3.nth hq.out
      obtain ⟨e0, e1, e2, e3, e4⟩ := hcel
      have hsz : d1.sz < n := by
        have h5 := congrArg Fo.sz hk3
        rw [Fo.app_sz] at h5
        have h6 := HN.out
        simp only [Fo.sz] at h5
        omega
      have hvv : Val (.cons k1 l1 d1 mn1 mx1 .nil) := by
        have h5 := HV.out
        rw [hk3] at h5
        exact (val_app h5).single1
      have hdd : at_ + 1 + dpS d1 ≤ 39 := by
        have h5 := HD.out
        rw [hk3, dpS_app, dpS] at h5
        omega
      have HC := Lib.hid (IH.out ⟨k1, l1, K1, c1, mn1, mx1, d1⟩ X (at_ + 1) wr hsz ⟨hc3, hc4, hat1⟩ hvv hdd (by omega))
      unfold Nd.v at HC
      simp only at HC
      have hkk := Lib.hid (show kids = (dn.app (.cons k1 l1 d1 mn1 mx1 .nil)).app r1 by rw [hk3, Fo.app_assoc]; rfl)
      have hqq := Lib.hid (show (dn.app (.cons k1 l1 d1 mn1 mx1 .nil)).len = q + 1 by rw [Fo.app_len, hq.out]; rfl)
      have hr2 := hrl.out
      rw [szL_cons] at hr2
      obtain ⟨hz1, hz2⟩ := sizeF_rng k1 d1 mn1 mx1
      have hws := Lib.hid (show w.heap.size + 1 ≤ wr.heap.size by have := hb.out.size; rw [HSZ.out] at this; exact this)
      generalize sizeF k1 d1 mn1 mx1 = z at *
      have hr3 := Lib.hid hr2
      have hsm1 : 0 ≤ min (m + z) 1099511627776 := by omega
      have hsm2 : min (m + z) 1099511627776 ≤ 1099511627776 := by omega
      have HS1 := Lib.hid (fun w => HSM.out m z w ⟨hm1, hm2⟩ ⟨hz1, by omega⟩)
      clear hsz hat1 h3 hk3 hvv hdd hr2
      obtain ⟨zs, hzs⟩ : ∃ zs, min (m + z) 1099511627776 = zs := ⟨_, rfl⟩
      rw [hzs] at hr3 hsm1 hsm2 HS1
      clear hzs
      go_wp2_with (first
        | (go_at_call 31; (with_reducible refine (HC.out).mono ?_); rintro e' w2 ⟨rfl, hb2⟩; have HB2 := Lib.hid hb2; clear hb2)
        | (go_at_call 61; (with_reducible refine (HS1.out _).mono ?_); rintro e' w3 ⟨rfl, rfl⟩))
      exact ⟨⟨q + 1, _, r1, _, hkk, hqq, by go_num, rfl, hsm1, hsm2, hr3, Lib.hid (hb.out.trans (HB2.out.mono hws.out))⟩, by simp [RowKit.intOf] <;> omega⟩
    | nil =>
      have hlt : ¬ (q : Int) < kids.len := by have := hlen.out; simp only [Fo.len] at this; omega
      have hse := Lib.hid (show szL kids 0 = m from hrl.out.symm)
      have hfe := Lib.hid (show R = sizeI 2 m mn mx by rw [← HR.out]; unfold sizeF; rw [hse.out])
      have HT := Lib.hid (show R = 1 by rw [hfe.out]; rfl)
      go_wp2_with fail
      go_ret
      exact ⟨by rw [HT.out]; rfl, hb0.out⟩
set_option maxRecDepth 100000 in
set_option maxHeartbeats 16000000 in
theorem rsize_3 (n : Nat) (ih : ∀ (a : Nd) (X : List Nat) (at_ : Int) (w : World), a.kids.sz < n → a.ok w X → Val (a.fo .nil) → at_ + dpS a.kids ≤ 39 → 0 ≤ at_ → Calls Tryz.prog 31 #[a.v, .int .i64 at_] w fun e w' => e = .returned (.int .i64 (sizeF a.k a.kids a.mn a.mx)) ∧ Below w.heap.size w w')
    (l : ByteArray) (A : Option Addr) (c : Nat) (mn mx : Int) (kids : Fo) (X : List Nat) (at_ : Int) (w : World) (hn : kids.sz ≤ n) (hc : kids.len ≤ c) (hc2 : c ≤ 9223372036854775807) (hat : At w X kids A) (hv : Val (.cons 3 l kids mn mx .nil)) (hd : at_ + dpS kids ≤ 39) (h0 : 0 ≤ at_) :
    Calls Tryz.prog 31 #[.agg #[.int .i64 3, .string l, .slice A kids.len c, .int .i64 mn, .int .i64 mx], .int .i64 at_] w fun e w' => e = .returned (.int .i64 (sizeF 3 kids mn mx)) ∧ Below w.heap.size w w' := by
  have HN := Lib.hid hn
  have HA := Lib.hid hat
  have IH := Lib.hid ih
  have HV := Lib.hid hv.cons.2.1
  have HONE := Lib.hid (trivial)
  have HD := Lib.hid hd
  have HSM := Lib.hid (fun a b w ha hb => rsum_any a b w ha hb)
  have hdg := dpS_ge kids
  have ta : decide (at_ ≥ 40) = false := decide_eq_false (by omega)
  have hat39 : at_ ≤ 39 := by omega
  have HSZ := Lib.hid (show (w.alloc (obj5 3 l A kids.len c mn mx)).heap.size = w.heap.size + 1 by simp)
  obtain ⟨R, hR⟩ : ∃ R, sizeF 3 kids mn mx = R := ⟨_, rfl⟩
  have HR := Lib.hid hR
  rw [hR]
  clear hat hn ih hv hd hR hdg
  go_enter Tryz.func31, Tryz.ntmps31
  go_wp2_with fail
  go_loopw [5, 6] (fun nv iv wr => ∃ (q : Nat) (dn r : Fo) (m : Int), Hid (kids = dn.app r) ∧ Hid (dn.len = q) ∧ iv = .int .i64 q ∧ nv = .int .i64 m ∧ 0 ≤ m ∧ m ≤ 1099511627776 ∧ Hid (szL r m = szL kids 0) ∧ Hid (Below (w.heap.size + 1) (w.alloc (obj5 3 l A kids.len c mn mx)) wr)) (fun _ iv _ => kids.len - (RowKit.intOf iv).toNat)
  case atStart => exact ⟨0, .nil, kids, 0, Lib.hid rfl, Lib.hid rfl, rfl, rfl, Int.le_refl _, by decide, Lib.hid rfl, Lib.hid (Below.refl _ _)⟩
  case round =>
    obtain ⟨q, dn, r, m, hk, hq, rfl, rfl, hm1, hm2, hrl, hb⟩ := hrel
    have hlen := Lib.hid (show kids.len = q + r.len by rw [hk.out, Fo.app_len, hq.out])
    have hb0 := Lib.hid (box_below hb.out)
    obtain ⟨hx0, hx1, hx2, hx3, hx4⟩ := box_cells _ _ _ _ _ _ _ hb.out
    clear hx1
    cases r with
    | cons k1 l1 d1 mn1 mx1 r1 =>
      clear hx0 hx3 hx4
      have hlt : (q : Int) < kids.len := by have := hlen.out; simp only [Fo.len] at this; omega
      have hq0 : (0 : Int) ≤ q := by omega
      have hk3 : kids = dn.app (.cons k1 l1 d1 mn1 mx1 r1) := hk.out
      obtain ⟨b0, o0, rfl⟩ := at_shape HA.out (by have := hlen.out; simp only [Fo.len] at this; omega)
      have h3 := HA.out.below hb0.out
      rw [hk3] at h3
      obtain ⟨K1, c1, hcel, hc3, hc4, hat1⟩ := h3.nth hq.out
      obtain ⟨e0, e1, e2, e3, e4⟩ := hcel
      have hsz : d1.sz < n := by
        have h5 := congrArg Fo.sz hk3
        rw [Fo.app_sz] at h5
        have h6 := HN.out
        simp only [Fo.sz] at h5
        omega
      have hvv : Val (.cons k1 l1 d1 mn1 mx1 .nil) := by
        have h5 := HV.out
        rw [hk3] at h5
        exact (val_app h5).single1
      have hdd : at_ + 1 + dpS d1 ≤ 39 := by
        have h5 := HD.out
        rw [hk3, dpS_app, dpS] at h5
        omega
      have HC := Lib.hid (IH.out ⟨k1, l1, K1, c1, mn1, mx1, d1⟩ X (at_ + 1) wr hsz ⟨hc3, hc4, hat1⟩ hvv hdd (by omega))
      unfold Nd.v at HC
      simp only at HC
      have hkk := Lib.hid (show kids = (dn.app (.cons k1 l1 d1 mn1 mx1 .nil)).app r1 by rw [hk3, Fo.app_assoc]; rfl)
      have hqq := Lib.hid (show (dn.app (.cons k1 l1 d1 mn1 mx1 .nil)).len = q + 1 by rw [Fo.app_len, hq.out]; rfl)
      have hr2 := hrl.out
      rw [szL_cons] at hr2
      obtain ⟨hz1, hz2⟩ := sizeF_rng k1 d1 mn1 mx1
      have hws := Lib.hid (show w.heap.size + 1 ≤ wr.heap.size by have := hb.out.size; rw [HSZ.out] at this; exact this)
      generalize sizeF k1 d1 mn1 mx1 = z at *
      have hr3 := Lib.hid hr2
      have hsm1 : 0 ≤ min (m + z) 1099511627776 := by omega
      have hsm2 : min (m + z) 1099511627776 ≤ 1099511627776 := by omega
      have HS1 := Lib.hid (fun w => HSM.out m z w ⟨hm1, hm2⟩ ⟨hz1, by omega⟩)
      clear hsz hat1 h3 hk3 hvv hdd hr2
      obtain ⟨zs, hzs⟩ : ∃ zs, min (m + z) 1099511627776 = zs := ⟨_, rfl⟩
      rw [hzs] at hr3 hsm1 hsm2 HS1
      clear hzs
      go_wp2_with (first
        | (go_at_call 31; (with_reducible refine (HC.out).mono ?_); rintro e' w2 ⟨rfl, hb2⟩; have HB2 := Lib.hid hb2; clear hb2)
        | (go_at_call 61; (with_reducible refine (HS1.out _).mono ?_); rintro e' w3 ⟨rfl, rfl⟩))
      exact ⟨⟨q + 1, _, r1, _, hkk, hqq, by go_num, rfl, hsm1, hsm2, hr3, Lib.hid (hb.out.trans (HB2.out.mono hws.out))⟩, by simp [RowKit.intOf] <;> omega⟩
    | nil =>
      have hlt : ¬ (q : Int) < kids.len := by have := hlen.out; simp only [Fo.len] at this; omega
      have hse := Lib.hid (show szL kids 0 = m from hrl.out.symm)
      have hfe := Lib.hid (show R = sizeI 3 m mn mx by rw [← HR.out]; unfold sizeF; rw [hse.out])
      have HT := Lib.hid (show R = 1 by rw [hfe.out]; rfl)
      go_wp2_with fail
      go_ret
      exact ⟨by rw [HT.out]; rfl, hb0.out⟩
set_option maxRecDepth 100000 in
set_option maxHeartbeats 16000000 in
theorem rsize_4 (n : Nat) (ih : ∀ (a : Nd) (X : List Nat) (at_ : Int) (w : World), a.kids.sz < n → a.ok w X → Val (a.fo .nil) → at_ + dpS a.kids ≤ 39 → 0 ≤ at_ → Calls Tryz.prog 31 #[a.v, .int .i64 at_] w fun e w' => e = .returned (.int .i64 (sizeF a.k a.kids a.mn a.mx)) ∧ Below w.heap.size w w')
    (l : ByteArray) (A : Option Addr) (c : Nat) (mn mx : Int) (kids : Fo) (X : List Nat) (at_ : Int) (w : World) (hn : kids.sz ≤ n) (hc : kids.len ≤ c) (hc2 : c ≤ 9223372036854775807) (hat : At w X kids A) (hv : Val (.cons 4 l kids mn mx .nil)) (hd : at_ + dpS kids ≤ 39) (h0 : 0 ≤ at_) :
    Calls Tryz.prog 31 #[.agg #[.int .i64 4, .string l, .slice A kids.len c, .int .i64 mn, .int .i64 mx], .int .i64 at_] w fun e w' => e = .returned (.int .i64 (sizeF 4 kids mn mx)) ∧ Below w.heap.size w w' := by
  have HN := Lib.hid hn
  have HA := Lib.hid hat
  have IH := Lib.hid ih
  have HV := Lib.hid hv.cons.2.1
  have HONE := Lib.hid (trivial)
  have HD := Lib.hid hd
  have HSM := Lib.hid (fun a b w ha hb => rsum_any a b w ha hb)
  have hdg := dpS_ge kids
  have ta : decide (at_ ≥ 40) = false := decide_eq_false (by omega)
  have hat39 : at_ ≤ 39 := by omega
  have HSZ := Lib.hid (show (w.alloc (obj5 4 l A kids.len c mn mx)).heap.size = w.heap.size + 1 by simp)
  obtain ⟨R, hR⟩ : ∃ R, sizeF 4 kids mn mx = R := ⟨_, rfl⟩
  have HR := Lib.hid hR
  rw [hR]
  clear hat hn ih hv hd hR hdg
  go_enter Tryz.func31, Tryz.ntmps31
  go_wp2_with fail
  go_loopw [5, 6] (fun nv iv wr => ∃ (q : Nat) (dn r : Fo) (m : Int), Hid (kids = dn.app r) ∧ Hid (dn.len = q) ∧ iv = .int .i64 q ∧ nv = .int .i64 m ∧ 0 ≤ m ∧ m ≤ 1099511627776 ∧ Hid (szL r m = szL kids 0) ∧ Hid (Below (w.heap.size + 1) (w.alloc (obj5 4 l A kids.len c mn mx)) wr)) (fun _ iv _ => kids.len - (RowKit.intOf iv).toNat)
  case atStart => exact ⟨0, .nil, kids, 0, Lib.hid rfl, Lib.hid rfl, rfl, rfl, Int.le_refl _, by decide, Lib.hid rfl, Lib.hid (Below.refl _ _)⟩
  case round =>
    obtain ⟨q, dn, r, m, hk, hq, rfl, rfl, hm1, hm2, hrl, hb⟩ := hrel
    have hlen := Lib.hid (show kids.len = q + r.len by rw [hk.out, Fo.app_len, hq.out])
    have hb0 := Lib.hid (box_below hb.out)
    obtain ⟨hx0, hx1, hx2, hx3, hx4⟩ := box_cells _ _ _ _ _ _ _ hb.out
    clear hx1
    cases r with
    | cons k1 l1 d1 mn1 mx1 r1 =>
      clear hx0 hx3 hx4
      have hlt : (q : Int) < kids.len := by have := hlen.out; simp only [Fo.len] at this; omega
      have hq0 : (0 : Int) ≤ q := by omega
      have hk3 : kids = dn.app (.cons k1 l1 d1 mn1 mx1 r1) := hk.out
      obtain ⟨b0, o0, rfl⟩ := at_shape HA.out (by have := hlen.out; simp only [Fo.len] at this; omega)
      have h3 := HA.out.below hb0.out
      rw [hk3] at h3
      obtain ⟨K1, c1, hcel, hc3, hc4, hat1⟩ := h3.nth hq.out
      obtain ⟨e0, e1, e2, e3, e4⟩ := hcel
      have hsz : d1.sz < n := by
        have h5 := congrArg Fo.sz hk3
        rw [Fo.app_sz] at h5
        have h6 := HN.out
        simp only [Fo.sz] at h5
        omega
      have hvv : Val (.cons k1 l1 d1 mn1 mx1 .nil) := by
        have h5 := HV.out
        rw [hk3] at h5
        exact (val_app h5).single1
      have hdd : at_ + 1 + dpS d1 ≤ 39 := by
        have h5 := HD.out
        rw [hk3, dpS_app, dpS] at h5
        omega
      have HC := Lib.hid (IH.out ⟨k1, l1, K1, c1, mn1, mx1, d1⟩ X (at_ + 1) wr hsz ⟨hc3, hc4, hat1⟩ hvv hdd (by omega))
      unfold Nd.v at HC
      simp only at HC
      have hkk := Lib.hid (show kids = (dn.app (.cons k1 l1 d1 mn1 mx1 .nil)).app r1 by rw [hk3, Fo.app_assoc]; rfl)
      have hqq := Lib.hid (show (dn.app (.cons k1 l1 d1 mn1 mx1 .nil)).len = q + 1 by rw [Fo.app_len, hq.out]; rfl)
      have hr2 := hrl.out
      rw [szL_cons] at hr2
      obtain ⟨hz1, hz2⟩ := sizeF_rng k1 d1 mn1 mx1
      have hws := Lib.hid (show w.heap.size + 1 ≤ wr.heap.size by have := hb.out.size; rw [HSZ.out] at this; exact this)
      generalize sizeF k1 d1 mn1 mx1 = z at *
      have hr3 := Lib.hid hr2
      have hsm1 : 0 ≤ min (m + z) 1099511627776 := by omega
      have hsm2 : min (m + z) 1099511627776 ≤ 1099511627776 := by omega
      have HS1 := Lib.hid (fun w => HSM.out m z w ⟨hm1, hm2⟩ ⟨hz1, by omega⟩)
      clear hsz hat1 h3 hk3 hvv hdd hr2
      obtain ⟨zs, hzs⟩ : ∃ zs, min (m + z) 1099511627776 = zs := ⟨_, rfl⟩
      rw [hzs] at hr3 hsm1 hsm2 HS1
      clear hzs
      go_wp2_with (first
        | (go_at_call 31; (with_reducible refine (HC.out).mono ?_); rintro e' w2 ⟨rfl, hb2⟩; have HB2 := Lib.hid hb2; clear hb2)
        | (go_at_call 61; (with_reducible refine (HS1.out _).mono ?_); rintro e' w3 ⟨rfl, rfl⟩))
      exact ⟨⟨q + 1, _, r1, _, hkk, hqq, by go_num, rfl, hsm1, hsm2, hr3, Lib.hid (hb.out.trans (HB2.out.mono hws.out))⟩, by simp [RowKit.intOf] <;> omega⟩
    | nil =>
      have hlt : ¬ (q : Int) < kids.len := by have := hlen.out; simp only [Fo.len] at this; omega
      have hse := Lib.hid (show szL kids 0 = m from hrl.out.symm)
      have hfe := Lib.hid (show R = sizeI 4 m mn mx by rw [← HR.out]; unfold sizeF; rw [hse.out])
      have HT := Lib.hid (show R = min (m + 1) 1099511627776 by rw [hfe.out]; rfl)
      have HS1 := Lib.hid (fun w => HSM.out m 1 w ⟨hm1, hm2⟩ (by decide))
      generalize min (m + 1) 1099511627776 = V at *
      go_wp2_with (go_at_call 61; (with_reducible refine (HS1.out _).mono ?_); rintro e' w3 ⟨rfl, rfl⟩)
      go_ret
      exact ⟨by rw [HT.out]; rfl, hb0.out⟩
set_option maxRecDepth 100000 in
set_option maxHeartbeats 16000000 in
theorem rsize_5 (n : Nat) (ih : ∀ (a : Nd) (X : List Nat) (at_ : Int) (w : World), a.kids.sz < n → a.ok w X → Val (a.fo .nil) → at_ + dpS a.kids ≤ 39 → 0 ≤ at_ → Calls Tryz.prog 31 #[a.v, .int .i64 at_] w fun e w' => e = .returned (.int .i64 (sizeF a.k a.kids a.mn a.mx)) ∧ Below w.heap.size w w')
    (l : ByteArray) (A : Option Addr) (c : Nat) (mn mx : Int) (kids : Fo) (X : List Nat) (at_ : Int) (w : World) (hn : kids.sz ≤ n) (hc : kids.len ≤ c) (hc2 : c ≤ 9223372036854775807) (hat : At w X kids A) (hv : Val (.cons 5 l kids mn mx .nil)) (hd : at_ + dpS kids ≤ 39) (h0 : 0 ≤ at_) :
    Calls Tryz.prog 31 #[.agg #[.int .i64 5, .string l, .slice A kids.len c, .int .i64 mn, .int .i64 mx], .int .i64 at_] w fun e w' => e = .returned (.int .i64 (sizeF 5 kids mn mx)) ∧ Below w.heap.size w w' := by
  have HN := Lib.hid hn
  have HA := Lib.hid hat
  have IH := Lib.hid ih
  have HV := Lib.hid hv.cons.2.1
  have HONE := Lib.hid (trivial)
  have HD := Lib.hid hd
  have HSM := Lib.hid (fun a b w ha hb => rsum_any a b w ha hb)
  have hdg := dpS_ge kids
  have ta : decide (at_ ≥ 40) = false := decide_eq_false (by omega)
  have hat39 : at_ ≤ 39 := by omega
  have HSZ := Lib.hid (show (w.alloc (obj5 5 l A kids.len c mn mx)).heap.size = w.heap.size + 1 by simp)
  obtain ⟨R, hR⟩ : ∃ R, sizeF 5 kids mn mx = R := ⟨_, rfl⟩
  have HR := Lib.hid hR
  rw [hR]
  clear hat hn ih hv hd hR hdg
  go_enter Tryz.func31, Tryz.ntmps31
  go_wp2_with fail
  go_loopw [5, 6] (fun nv iv wr => ∃ (q : Nat) (dn r : Fo) (m : Int), Hid (kids = dn.app r) ∧ Hid (dn.len = q) ∧ iv = .int .i64 q ∧ nv = .int .i64 m ∧ 0 ≤ m ∧ m ≤ 1099511627776 ∧ Hid (szL r m = szL kids 0) ∧ Hid (Below (w.heap.size + 1) (w.alloc (obj5 5 l A kids.len c mn mx)) wr)) (fun _ iv _ => kids.len - (RowKit.intOf iv).toNat)
  case atStart => exact ⟨0, .nil, kids, 0, Lib.hid rfl, Lib.hid rfl, rfl, rfl, Int.le_refl _, by decide, Lib.hid rfl, Lib.hid (Below.refl _ _)⟩
  case round =>
    obtain ⟨q, dn, r, m, hk, hq, rfl, rfl, hm1, hm2, hrl, hb⟩ := hrel
    have hlen := Lib.hid (show kids.len = q + r.len by rw [hk.out, Fo.app_len, hq.out])
    have hb0 := Lib.hid (box_below hb.out)
    obtain ⟨hx0, hx1, hx2, hx3, hx4⟩ := box_cells _ _ _ _ _ _ _ hb.out
    clear hx1
    cases r with
    | cons k1 l1 d1 mn1 mx1 r1 =>
      clear hx0 hx3 hx4
      have hlt : (q : Int) < kids.len := by have := hlen.out; simp only [Fo.len] at this; omega
      have hq0 : (0 : Int) ≤ q := by omega
      have hk3 : kids = dn.app (.cons k1 l1 d1 mn1 mx1 r1) := hk.out
      obtain ⟨b0, o0, rfl⟩ := at_shape HA.out (by have := hlen.out; simp only [Fo.len] at this; omega)
      have h3 := HA.out.below hb0.out
      rw [hk3] at h3
      obtain ⟨K1, c1, hcel, hc3, hc4, hat1⟩ := h3.nth hq.out
      obtain ⟨e0, e1, e2, e3, e4⟩ := hcel
      have hsz : d1.sz < n := by
        have h5 := congrArg Fo.sz hk3
        rw [Fo.app_sz] at h5
        have h6 := HN.out
        simp only [Fo.sz] at h5
        omega
      have hvv : Val (.cons k1 l1 d1 mn1 mx1 .nil) := by
        have h5 := HV.out
        rw [hk3] at h5
        exact (val_app h5).single1
      have hdd : at_ + 1 + dpS d1 ≤ 39 := by
        have h5 := HD.out
        rw [hk3, dpS_app, dpS] at h5
        omega
      have HC := Lib.hid (IH.out ⟨k1, l1, K1, c1, mn1, mx1, d1⟩ X (at_ + 1) wr hsz ⟨hc3, hc4, hat1⟩ hvv hdd (by omega))
      unfold Nd.v at HC
      simp only at HC
      have hkk := Lib.hid (show kids = (dn.app (.cons k1 l1 d1 mn1 mx1 .nil)).app r1 by rw [hk3, Fo.app_assoc]; rfl)
      have hqq := Lib.hid (show (dn.app (.cons k1 l1 d1 mn1 mx1 .nil)).len = q + 1 by rw [Fo.app_len, hq.out]; rfl)
      have hr2 := hrl.out
      rw [szL_cons] at hr2
      obtain ⟨hz1, hz2⟩ := sizeF_rng k1 d1 mn1 mx1
      have hws := Lib.hid (show w.heap.size + 1 ≤ wr.heap.size by have := hb.out.size; rw [HSZ.out] at this; exact this)
      generalize sizeF k1 d1 mn1 mx1 = z at *
      have hr3 := Lib.hid hr2
      have hsm1 : 0 ≤ min (m + z) 1099511627776 := by omega
      have hsm2 : min (m + z) 1099511627776 ≤ 1099511627776 := by omega
      have HS1 := Lib.hid (fun w => HSM.out m z w ⟨hm1, hm2⟩ ⟨hz1, by omega⟩)
      clear hsz hat1 h3 hk3 hvv hdd hr2
      obtain ⟨zs, hzs⟩ : ∃ zs, min (m + z) 1099511627776 = zs := ⟨_, rfl⟩
      rw [hzs] at hr3 hsm1 hsm2 HS1
      clear hzs
      go_wp2_with (first
        | (go_at_call 31; (with_reducible refine (HC.out).mono ?_); rintro e' w2 ⟨rfl, hb2⟩; have HB2 := Lib.hid hb2; clear hb2)
        | (go_at_call 61; (with_reducible refine (HS1.out _).mono ?_); rintro e' w3 ⟨rfl, rfl⟩))
      exact ⟨⟨q + 1, _, r1, _, hkk, hqq, by go_num, rfl, hsm1, hsm2, hr3, Lib.hid (hb.out.trans (HB2.out.mono hws.out))⟩, by simp [RowKit.intOf] <;> omega⟩
    | nil =>
      have hlt : ¬ (q : Int) < kids.len := by have := hlen.out; simp only [Fo.len] at this; omega
      have hse := Lib.hid (show szL kids 0 = m from hrl.out.symm)
      have hfe := Lib.hid (show R = sizeI 5 m mn mx by rw [← HR.out]; unfold sizeF; rw [hse.out])
      have HT := Lib.hid (show R = min (m + 1) 1099511627776 by rw [hfe.out]; rfl)
      have HS1 := Lib.hid (fun w => HSM.out m 1 w ⟨hm1, hm2⟩ (by decide))
      generalize min (m + 1) 1099511627776 = V at *
      go_wp2_with (go_at_call 61; (with_reducible refine (HS1.out _).mono ?_); rintro e' w3 ⟨rfl, rfl⟩)
      go_ret
      exact ⟨by rw [HT.out]; rfl, hb0.out⟩
set_option maxRecDepth 100000 in
set_option maxHeartbeats 16000000 in
theorem rsize_6 (n : Nat) (ih : ∀ (a : Nd) (X : List Nat) (at_ : Int) (w : World), a.kids.sz < n → a.ok w X → Val (a.fo .nil) → at_ + dpS a.kids ≤ 39 → 0 ≤ at_ → Calls Tryz.prog 31 #[a.v, .int .i64 at_] w fun e w' => e = .returned (.int .i64 (sizeF a.k a.kids a.mn a.mx)) ∧ Below w.heap.size w w')
    (l : ByteArray) (A : Option Addr) (c : Nat) (mn mx : Int) (kids : Fo) (X : List Nat) (at_ : Int) (w : World) (hn : kids.sz ≤ n) (hc : kids.len ≤ c) (hc2 : c ≤ 9223372036854775807) (hat : At w X kids A) (hv : Val (.cons 6 l kids mn mx .nil)) (hd : at_ + dpS kids ≤ 39) (h0 : 0 ≤ at_) :
    Calls Tryz.prog 31 #[.agg #[.int .i64 6, .string l, .slice A kids.len c, .int .i64 mn, .int .i64 mx], .int .i64 at_] w fun e w' => e = .returned (.int .i64 (sizeF 6 kids mn mx)) ∧ Below w.heap.size w w' := by
  have HN := Lib.hid hn
  have HA := Lib.hid hat
  have IH := Lib.hid ih
  have HV := Lib.hid hv.cons.2.1
  have HONE := Lib.hid (trivial)
  have HD := Lib.hid hd
  have HSM := Lib.hid (fun a b w ha hb => rsum_any a b w ha hb)
  have hdg := dpS_ge kids
  have ta : decide (at_ ≥ 40) = false := decide_eq_false (by omega)
  have hat39 : at_ ≤ 39 := by omega
  have HSZ := Lib.hid (show (w.alloc (obj5 6 l A kids.len c mn mx)).heap.size = w.heap.size + 1 by simp)
  obtain ⟨R, hR⟩ : ∃ R, sizeF 6 kids mn mx = R := ⟨_, rfl⟩
  have HR := Lib.hid hR
  rw [hR]
  clear hat hn ih hv hd hR hdg
  go_enter Tryz.func31, Tryz.ntmps31
  go_wp2_with fail
  go_loopw [5, 6] (fun nv iv wr => ∃ (q : Nat) (dn r : Fo) (m : Int), Hid (kids = dn.app r) ∧ Hid (dn.len = q) ∧ iv = .int .i64 q ∧ nv = .int .i64 m ∧ 0 ≤ m ∧ m ≤ 1099511627776 ∧ Hid (szL r m = szL kids 0) ∧ Hid (Below (w.heap.size + 1) (w.alloc (obj5 6 l A kids.len c mn mx)) wr)) (fun _ iv _ => kids.len - (RowKit.intOf iv).toNat)
  case atStart => exact ⟨0, .nil, kids, 0, Lib.hid rfl, Lib.hid rfl, rfl, rfl, Int.le_refl _, by decide, Lib.hid rfl, Lib.hid (Below.refl _ _)⟩
  case round =>
    obtain ⟨q, dn, r, m, hk, hq, rfl, rfl, hm1, hm2, hrl, hb⟩ := hrel
    have hlen := Lib.hid (show kids.len = q + r.len by rw [hk.out, Fo.app_len, hq.out])
    have hb0 := Lib.hid (box_below hb.out)
    obtain ⟨hx0, hx1, hx2, hx3, hx4⟩ := box_cells _ _ _ _ _ _ _ hb.out
    clear hx1
    cases r with
    | cons k1 l1 d1 mn1 mx1 r1 =>
      clear hx0 hx3 hx4
      have hlt : (q : Int) < kids.len := by have := hlen.out; simp only [Fo.len] at this; omega
      have hq0 : (0 : Int) ≤ q := by omega
      have hk3 : kids = dn.app (.cons k1 l1 d1 mn1 mx1 r1) := hk.out
      obtain ⟨b0, o0, rfl⟩ := at_shape HA.out (by have := hlen.out; simp only [Fo.len] at this; omega)
      have h3 := HA.out.below hb0.out
      rw [hk3] at h3
      obtain ⟨K1, c1, hcel, hc3, hc4, hat1⟩ := h3.nth hq.out
      obtain ⟨e0, e1, e2, e3, e4⟩ := hcel
      have hsz : d1.sz < n := by
        have h5 := congrArg Fo.sz hk3
        rw [Fo.app_sz] at h5
        have h6 := HN.out
        simp only [Fo.sz] at h5
        omega
      have hvv : Val (.cons k1 l1 d1 mn1 mx1 .nil) := by
        have h5 := HV.out
        rw [hk3] at h5
        exact (val_app h5).single1
      have hdd : at_ + 1 + dpS d1 ≤ 39 := by
        have h5 := HD.out
        rw [hk3, dpS_app, dpS] at h5
        omega
      have HC := Lib.hid (IH.out ⟨k1, l1, K1, c1, mn1, mx1, d1⟩ X (at_ + 1) wr hsz ⟨hc3, hc4, hat1⟩ hvv hdd (by omega))
      unfold Nd.v at HC
      simp only at HC
      have hkk := Lib.hid (show kids = (dn.app (.cons k1 l1 d1 mn1 mx1 .nil)).app r1 by rw [hk3, Fo.app_assoc]; rfl)
      have hqq := Lib.hid (show (dn.app (.cons k1 l1 d1 mn1 mx1 .nil)).len = q + 1 by rw [Fo.app_len, hq.out]; rfl)
      have hr2 := hrl.out
      rw [szL_cons] at hr2
      obtain ⟨hz1, hz2⟩ := sizeF_rng k1 d1 mn1 mx1
      have hws := Lib.hid (show w.heap.size + 1 ≤ wr.heap.size by have := hb.out.size; rw [HSZ.out] at this; exact this)
      generalize sizeF k1 d1 mn1 mx1 = z at *
      have hr3 := Lib.hid hr2
      have hsm1 : 0 ≤ min (m + z) 1099511627776 := by omega
      have hsm2 : min (m + z) 1099511627776 ≤ 1099511627776 := by omega
      have HS1 := Lib.hid (fun w => HSM.out m z w ⟨hm1, hm2⟩ ⟨hz1, by omega⟩)
      clear hsz hat1 h3 hk3 hvv hdd hr2
      obtain ⟨zs, hzs⟩ : ∃ zs, min (m + z) 1099511627776 = zs := ⟨_, rfl⟩
      rw [hzs] at hr3 hsm1 hsm2 HS1
      clear hzs
      go_wp2_with (first
        | (go_at_call 31; (with_reducible refine (HC.out).mono ?_); rintro e' w2 ⟨rfl, hb2⟩; have HB2 := Lib.hid hb2; clear hb2)
        | (go_at_call 61; (with_reducible refine (HS1.out _).mono ?_); rintro e' w3 ⟨rfl, rfl⟩))
      exact ⟨⟨q + 1, _, r1, _, hkk, hqq, by go_num, rfl, hsm1, hsm2, hr3, Lib.hid (hb.out.trans (HB2.out.mono hws.out))⟩, by simp [RowKit.intOf] <;> omega⟩
    | nil =>
      have hlt : ¬ (q : Int) < kids.len := by have := hlen.out; simp only [Fo.len] at this; omega
      have hse := Lib.hid (show szL kids 0 = m from hrl.out.symm)
      have hfe := Lib.hid (show R = sizeI 6 m mn mx by rw [← HR.out]; unfold sizeF; rw [hse.out])
      have HT := Lib.hid (show R = min (m + 1) 1099511627776 by rw [hfe.out]; rfl)
      have HS1 := Lib.hid (fun w => HSM.out m 1 w ⟨hm1, hm2⟩ (by decide))
      generalize min (m + 1) 1099511627776 = V at *
      go_wp2_with (go_at_call 61; (with_reducible refine (HS1.out _).mono ?_); rintro e' w3 ⟨rfl, rfl⟩)
      go_ret
      exact ⟨by rw [HT.out]; rfl, hb0.out⟩
set_option maxRecDepth 100000 in
set_option maxHeartbeats 16000000 in
theorem rsize_7 (n : Nat) (ih : ∀ (a : Nd) (X : List Nat) (at_ : Int) (w : World), a.kids.sz < n → a.ok w X → Val (a.fo .nil) → at_ + dpS a.kids ≤ 39 → 0 ≤ at_ → Calls Tryz.prog 31 #[a.v, .int .i64 at_] w fun e w' => e = .returned (.int .i64 (sizeF a.k a.kids a.mn a.mx)) ∧ Below w.heap.size w w')
    (l : ByteArray) (A : Option Addr) (c : Nat) (mn mx : Int) (kids : Fo) (X : List Nat) (at_ : Int) (w : World) (hn : kids.sz ≤ n) (hc : kids.len ≤ c) (hc2 : c ≤ 9223372036854775807) (hat : At w X kids A) (hv : Val (.cons 7 l kids mn mx .nil)) (hd : at_ + dpS kids ≤ 39) (h0 : 0 ≤ at_) :
    Calls Tryz.prog 31 #[.agg #[.int .i64 7, .string l, .slice A kids.len c, .int .i64 mn, .int .i64 mx], .int .i64 at_] w fun e w' => e = .returned (.int .i64 (sizeF 7 kids mn mx)) ∧ Below w.heap.size w w' := by
  have HN := Lib.hid hn
  have HA := Lib.hid hat
  have IH := Lib.hid ih
  have HV := Lib.hid hv.cons.2.1
  have HONE := Lib.hid (trivial)
  have HD := Lib.hid hd
  have HSM := Lib.hid (fun a b w ha hb => rsum_any a b w ha hb)
  have hdg := dpS_ge kids
  have ta : decide (at_ ≥ 40) = false := decide_eq_false (by omega)
  have hat39 : at_ ≤ 39 := by omega
  have HSZ := Lib.hid (show (w.alloc (obj5 7 l A kids.len c mn mx)).heap.size = w.heap.size + 1 by simp)
  obtain ⟨R, hR⟩ : ∃ R, sizeF 7 kids mn mx = R := ⟨_, rfl⟩
  have HR := Lib.hid hR
  rw [hR]
  clear hat hn ih hv hd hR hdg
  go_enter Tryz.func31, Tryz.ntmps31
  go_wp2_with fail
  go_loopw [5, 6] (fun nv iv wr => ∃ (q : Nat) (dn r : Fo) (m : Int), Hid (kids = dn.app r) ∧ Hid (dn.len = q) ∧ iv = .int .i64 q ∧ nv = .int .i64 m ∧ 0 ≤ m ∧ m ≤ 1099511627776 ∧ Hid (szL r m = szL kids 0) ∧ Hid (Below (w.heap.size + 1) (w.alloc (obj5 7 l A kids.len c mn mx)) wr)) (fun _ iv _ => kids.len - (RowKit.intOf iv).toNat)
  case atStart => exact ⟨0, .nil, kids, 0, Lib.hid rfl, Lib.hid rfl, rfl, rfl, Int.le_refl _, by decide, Lib.hid rfl, Lib.hid (Below.refl _ _)⟩
  case round =>
    obtain ⟨q, dn, r, m, hk, hq, rfl, rfl, hm1, hm2, hrl, hb⟩ := hrel
    have hlen := Lib.hid (show kids.len = q + r.len by rw [hk.out, Fo.app_len, hq.out])
    have hb0 := Lib.hid (box_below hb.out)
    obtain ⟨hx0, hx1, hx2, hx3, hx4⟩ := box_cells _ _ _ _ _ _ _ hb.out
    clear hx1
    cases r with
    | cons k1 l1 d1 mn1 mx1 r1 =>
      clear hx0 hx3 hx4
      have hlt : (q : Int) < kids.len := by have := hlen.out; simp only [Fo.len] at this; omega
      have hq0 : (0 : Int) ≤ q := by omega
      have hk3 : kids = dn.app (.cons k1 l1 d1 mn1 mx1 r1) := hk.out
      obtain ⟨b0, o0, rfl⟩ := at_shape HA.out (by have := hlen.out; simp only [Fo.len] at this; omega)
      have h3 := HA.out.below hb0.out
      rw [hk3] at h3
      obtain ⟨K1, c1, hcel, hc3, hc4, hat1⟩ := h3.nth hq.out
      obtain ⟨e0, e1, e2, e3, e4⟩ := hcel
      have hsz : d1.sz < n := by
        have h5 := congrArg Fo.sz hk3
        rw [Fo.app_sz] at h5
        have h6 := HN.out
        simp only [Fo.sz] at h5
        omega
      have hvv : Val (.cons k1 l1 d1 mn1 mx1 .nil) := by
        have h5 := HV.out
        rw [hk3] at h5
        exact (val_app h5).single1
      have hdd : at_ + 1 + dpS d1 ≤ 39 := by
        have h5 := HD.out
        rw [hk3, dpS_app, dpS] at h5
        omega
      have HC := Lib.hid (IH.out ⟨k1, l1, K1, c1, mn1, mx1, d1⟩ X (at_ + 1) wr hsz ⟨hc3, hc4, hat1⟩ hvv hdd (by omega))
      unfold Nd.v at HC
      simp only at HC
      have hkk := Lib.hid (show kids = (dn.app (.cons k1 l1 d1 mn1 mx1 .nil)).app r1 by rw [hk3, Fo.app_assoc]; rfl)
      have hqq := Lib.hid (show (dn.app (.cons k1 l1 d1 mn1 mx1 .nil)).len = q + 1 by rw [Fo.app_len, hq.out]; rfl)
      have hr2 := hrl.out
      rw [szL_cons] at hr2
      obtain ⟨hz1, hz2⟩ := sizeF_rng k1 d1 mn1 mx1
      have hws := Lib.hid (show w.heap.size + 1 ≤ wr.heap.size by have := hb.out.size; rw [HSZ.out] at this; exact this)
      generalize sizeF k1 d1 mn1 mx1 = z at *
      have hr3 := Lib.hid hr2
      have hsm1 : 0 ≤ min (m + z) 1099511627776 := by omega
      have hsm2 : min (m + z) 1099511627776 ≤ 1099511627776 := by omega
      have HS1 := Lib.hid (fun w => HSM.out m z w ⟨hm1, hm2⟩ ⟨hz1, by omega⟩)
      clear hsz hat1 h3 hk3 hvv hdd hr2
      obtain ⟨zs, hzs⟩ : ∃ zs, min (m + z) 1099511627776 = zs := ⟨_, rfl⟩
      rw [hzs] at hr3 hsm1 hsm2 HS1
      clear hzs
      go_wp2_with (first
        | (go_at_call 31; (with_reducible refine (HC.out).mono ?_); rintro e' w2 ⟨rfl, hb2⟩; have HB2 := Lib.hid hb2; clear hb2)
        | (go_at_call 61; (with_reducible refine (HS1.out _).mono ?_); rintro e' w3 ⟨rfl, rfl⟩))
      exact ⟨⟨q + 1, _, r1, _, hkk, hqq, by go_num, rfl, hsm1, hsm2, hr3, Lib.hid (hb.out.trans (HB2.out.mono hws.out))⟩, by simp [RowKit.intOf] <;> omega⟩
    | nil =>
      have hlt : ¬ (q : Int) < kids.len := by have := hlen.out; simp only [Fo.len] at this; omega
      have hse := Lib.hid (show szL kids 0 = m from hrl.out.symm)
      have hfe := Lib.hid (show R = sizeI 7 m mn mx by rw [← HR.out]; unfold sizeF; rw [hse.out])
      have HT := Lib.hid (show R = min (min (m + m) 1099511627776 + 2) 1099511627776 by rw [hfe.out]; show min (2 * m + 2) 1099511627776 = _; omega)
      have HS1 := Lib.hid (fun w => HSM.out m m w ⟨hm1, hm2⟩ ⟨hm1, by omega⟩)
      have HS2 := Lib.hid (fun w => HSM.out (min (m + m) 1099511627776) 2 w (by omega) (by decide))
      generalize min (min (m + m) 1099511627776 + 2) 1099511627776 = V at *
      generalize min (m + m) 1099511627776 = U at *
      go_wp2_with (first
        | (go_at_call 61; (with_reducible refine (HS1.out _).mono ?_); rintro e' w3 ⟨rfl, rfl⟩)
        | (go_at_call 61; (with_reducible refine (HS2.out _).mono ?_); rintro e' w3 ⟨rfl, rfl⟩))
      go_ret
      exact ⟨by rw [HT.out]; rfl, hb0.out⟩
set_option maxRecDepth 100000 in
set_option maxHeartbeats 16000000 in
theorem rsize_8 (n : Nat) (ih : ∀ (a : Nd) (X : List Nat) (at_ : Int) (w : World), a.kids.sz < n → a.ok w X → Val (a.fo .nil) → at_ + dpS a.kids ≤ 39 → 0 ≤ at_ → Calls Tryz.prog 31 #[a.v, .int .i64 at_] w fun e w' => e = .returned (.int .i64 (sizeF a.k a.kids a.mn a.mx)) ∧ Below w.heap.size w w')
    (l : ByteArray) (A : Option Addr) (c : Nat) (mn mx : Int) (kids : Fo) (X : List Nat) (at_ : Int) (w : World) (hn : kids.sz ≤ n) (hc : kids.len ≤ c) (hc2 : c ≤ 9223372036854775807) (hat : At w X kids A) (hv : Val (.cons 8 l kids mn mx .nil)) (hd : at_ + dpS kids ≤ 39) (h0 : 0 ≤ at_) :
    Calls Tryz.prog 31 #[.agg #[.int .i64 8, .string l, .slice A kids.len c, .int .i64 mn, .int .i64 mx], .int .i64 at_] w fun e w' => e = .returned (.int .i64 (sizeF 8 kids mn mx)) ∧ Below w.heap.size w w' := by
  have HN := Lib.hid hn
  have HA := Lib.hid hat
  have IH := Lib.hid ih
  have HV := Lib.hid hv.cons.2.1
  have HONE := Lib.hid (trivial)
  have HD := Lib.hid hd
  have HSM := Lib.hid (fun a b w ha hb => rsum_any a b w ha hb)
  have hdg := dpS_ge kids
  have ta : decide (at_ ≥ 40) = false := decide_eq_false (by omega)
  have hat39 : at_ ≤ 39 := by omega
  have HSZ := Lib.hid (show (w.alloc (obj5 8 l A kids.len c mn mx)).heap.size = w.heap.size + 1 by simp)
  obtain ⟨R, hR⟩ : ∃ R, sizeF 8 kids mn mx = R := ⟨_, rfl⟩
  have HR := Lib.hid hR
  rw [hR]
  clear hat hn ih hv hd hR hdg
  go_enter Tryz.func31, Tryz.ntmps31
  go_wp2_with fail
  go_loopw [5, 6] (fun nv iv wr => ∃ (q : Nat) (dn r : Fo) (m : Int), Hid (kids = dn.app r) ∧ Hid (dn.len = q) ∧ iv = .int .i64 q ∧ nv = .int .i64 m ∧ 0 ≤ m ∧ m ≤ 1099511627776 ∧ Hid (szL r m = szL kids 0) ∧ Hid (Below (w.heap.size + 1) (w.alloc (obj5 8 l A kids.len c mn mx)) wr)) (fun _ iv _ => kids.len - (RowKit.intOf iv).toNat)
  case atStart => exact ⟨0, .nil, kids, 0, Lib.hid rfl, Lib.hid rfl, rfl, rfl, Int.le_refl _, by decide, Lib.hid rfl, Lib.hid (Below.refl _ _)⟩
  case round =>
    obtain ⟨q, dn, r, m, hk, hq, rfl, rfl, hm1, hm2, hrl, hb⟩ := hrel
    have hlen := Lib.hid (show kids.len = q + r.len by rw [hk.out, Fo.app_len, hq.out])
    have hb0 := Lib.hid (box_below hb.out)
    obtain ⟨hx0, hx1, hx2, hx3, hx4⟩ := box_cells _ _ _ _ _ _ _ hb.out
    clear hx1
    cases r with
    | cons k1 l1 d1 mn1 mx1 r1 =>
      clear hx0 hx3 hx4
      have hlt : (q : Int) < kids.len := by have := hlen.out; simp only [Fo.len] at this; omega
      have hq0 : (0 : Int) ≤ q := by omega
      have hk3 : kids = dn.app (.cons k1 l1 d1 mn1 mx1 r1) := hk.out
      obtain ⟨b0, o0, rfl⟩ := at_shape HA.out (by have := hlen.out; simp only [Fo.len] at this; omega)
      have h3 := HA.out.below hb0.out
      rw [hk3] at h3
      obtain ⟨K1, c1, hcel, hc3, hc4, hat1⟩ := h3.nth hq.out
      obtain ⟨e0, e1, e2, e3, e4⟩ := hcel
      have hsz : d1.sz < n := by
        have h5 := congrArg Fo.sz hk3
        rw [Fo.app_sz] at h5
        have h6 := HN.out
        simp only [Fo.sz] at h5
        omega
      have hvv : Val (.cons k1 l1 d1 mn1 mx1 .nil) := by
        have h5 := HV.out
        rw [hk3] at h5
        exact (val_app h5).single1
      have hdd : at_ + 1 + dpS d1 ≤ 39 := by
        have h5 := HD.out
        rw [hk3, dpS_app, dpS] at h5
        omega
      have HC := Lib.hid (IH.out ⟨k1, l1, K1, c1, mn1, mx1, d1⟩ X (at_ + 1) wr hsz ⟨hc3, hc4, hat1⟩ hvv hdd (by omega))
      unfold Nd.v at HC
      simp only at HC
      have hkk := Lib.hid (show kids = (dn.app (.cons k1 l1 d1 mn1 mx1 .nil)).app r1 by rw [hk3, Fo.app_assoc]; rfl)
      have hqq := Lib.hid (show (dn.app (.cons k1 l1 d1 mn1 mx1 .nil)).len = q + 1 by rw [Fo.app_len, hq.out]; rfl)
      have hr2 := hrl.out
      rw [szL_cons] at hr2
      obtain ⟨hz1, hz2⟩ := sizeF_rng k1 d1 mn1 mx1
      have hws := Lib.hid (show w.heap.size + 1 ≤ wr.heap.size by have := hb.out.size; rw [HSZ.out] at this; exact this)
      generalize sizeF k1 d1 mn1 mx1 = z at *
      have hr3 := Lib.hid hr2
      have hsm1 : 0 ≤ min (m + z) 1099511627776 := by omega
      have hsm2 : min (m + z) 1099511627776 ≤ 1099511627776 := by omega
      have HS1 := Lib.hid (fun w => HSM.out m z w ⟨hm1, hm2⟩ ⟨hz1, by omega⟩)
      clear hsz hat1 h3 hk3 hvv hdd hr2
      obtain ⟨zs, hzs⟩ : ∃ zs, min (m + z) 1099511627776 = zs := ⟨_, rfl⟩
      rw [hzs] at hr3 hsm1 hsm2 HS1
      clear hzs
      go_wp2_with (first
        | (go_at_call 31; (with_reducible refine (HC.out).mono ?_); rintro e' w2 ⟨rfl, hb2⟩; have HB2 := Lib.hid hb2; clear hb2)
        | (go_at_call 61; (with_reducible refine (HS1.out _).mono ?_); rintro e' w3 ⟨rfl, rfl⟩))
      exact ⟨⟨q + 1, _, r1, _, hkk, hqq, by go_num, rfl, hsm1, hsm2, hr3, Lib.hid (hb.out.trans (HB2.out.mono hws.out))⟩, by simp [RowKit.intOf] <;> omega⟩
    | nil =>
      have hlt : ¬ (q : Int) < kids.len := by have := hlen.out; simp only [Fo.len] at this; omega
      have hse := Lib.hid (show szL kids 0 = m from hrl.out.symm)
      have hfe := Lib.hid (show R = sizeI 8 m mn mx by rw [← HR.out]; unfold sizeF; rw [hse.out])
      have HT := Lib.hid (show R = min (m + 2) 1099511627776 by rw [hfe.out]; rfl)
      have HS1 := Lib.hid (fun w => HSM.out m 2 w ⟨hm1, hm2⟩ (by decide))
      generalize min (m + 2) 1099511627776 = V at *
      go_wp2_with (go_at_call 61; (with_reducible refine (HS1.out _).mono ?_); rintro e' w3 ⟨rfl, rfl⟩)
      go_ret
      exact ⟨by rw [HT.out]; rfl, hb0.out⟩
set_option maxRecDepth 100000 in
set_option maxHeartbeats 16000000 in
theorem rsize_9 (n : Nat) (ih : ∀ (a : Nd) (X : List Nat) (at_ : Int) (w : World), a.kids.sz < n → a.ok w X → Val (a.fo .nil) → at_ + dpS a.kids ≤ 39 → 0 ≤ at_ → Calls Tryz.prog 31 #[a.v, .int .i64 at_] w fun e w' => e = .returned (.int .i64 (sizeF a.k a.kids a.mn a.mx)) ∧ Below w.heap.size w w')
    (l : ByteArray) (A : Option Addr) (c : Nat) (mn mx : Int) (kids : Fo) (X : List Nat) (at_ : Int) (w : World) (hn : kids.sz ≤ n) (hc : kids.len ≤ c) (hc2 : c ≤ 9223372036854775807) (hat : At w X kids A) (hv : Val (.cons 9 l kids mn mx .nil)) (hd : at_ + dpS kids ≤ 39) (h0 : 0 ≤ at_) :
    Calls Tryz.prog 31 #[.agg #[.int .i64 9, .string l, .slice A kids.len c, .int .i64 mn, .int .i64 mx], .int .i64 at_] w fun e w' => e = .returned (.int .i64 (sizeF 9 kids mn mx)) ∧ Below w.heap.size w w' := by
  have HN := Lib.hid hn
  have HA := Lib.hid hat
  have IH := Lib.hid ih
  have HV := Lib.hid hv.cons.2.1
  have HONE := Lib.hid ((one_zero hv.cons.1).2.2.2.2.2 rfl)
  have HD := Lib.hid hd
  have HSM := Lib.hid (fun a b w ha hb => rsum_any a b w ha hb)
  have hdg := dpS_ge kids
  have ta : decide (at_ ≥ 40) = false := decide_eq_false (by omega)
  have hat39 : at_ ≤ 39 := by omega
  have HSZ := Lib.hid (show (w.alloc (obj5 9 l A kids.len c mn mx)).heap.size = w.heap.size + 1 by simp)
  obtain ⟨R, hR⟩ : ∃ R, sizeF 9 kids mn mx = R := ⟨_, rfl⟩
  have HR := Lib.hid hR
  rw [hR]
  clear hat hn ih hv hd hR hdg
  go_enter Tryz.func31, Tryz.ntmps31
  go_wp2_with fail
  go_loopw [5, 6] (fun nv iv wr => ∃ (q : Nat) (dn r : Fo) (m : Int), Hid (kids = dn.app r) ∧ Hid (dn.len = q) ∧ iv = .int .i64 q ∧ nv = .int .i64 m ∧ 0 ≤ m ∧ m ≤ 1099511627776 ∧ Hid (szL r m = szL kids 0) ∧ Hid (Below (w.heap.size + 1) (w.alloc (obj5 9 l A kids.len c mn mx)) wr)) (fun _ iv _ => kids.len - (RowKit.intOf iv).toNat)
  case atStart => exact ⟨0, .nil, kids, 0, Lib.hid rfl, Lib.hid rfl, rfl, rfl, Int.le_refl _, by decide, Lib.hid rfl, Lib.hid (Below.refl _ _)⟩
  case round =>
    obtain ⟨q, dn, r, m, hk, hq, rfl, rfl, hm1, hm2, hrl, hb⟩ := hrel
    have hlen := Lib.hid (show kids.len = q + r.len by rw [hk.out, Fo.app_len, hq.out])
    have hb0 := Lib.hid (box_below hb.out)
    obtain ⟨hx0, hx1, hx2, hx3, hx4⟩ := box_cells _ _ _ _ _ _ _ hb.out
    clear hx1
    cases r with
    | cons k1 l1 d1 mn1 mx1 r1 =>
      clear hx0 hx3 hx4
      have hlt : (q : Int) < kids.len := by have := hlen.out; simp only [Fo.len] at this; omega
      have hq0 : (0 : Int) ≤ q := by omega
      have hk3 : kids = dn.app (.cons k1 l1 d1 mn1 mx1 r1) := hk.out
      obtain ⟨b0, o0, rfl⟩ := at_shape HA.out (by have := hlen.out; simp only [Fo.len] at this; omega)
      have h3 := HA.out.below hb0.out
      rw [hk3] at h3
      obtain ⟨K1, c1, hcel, hc3, hc4, hat1⟩ := h3.nth hq.out
      obtain ⟨e0, e1, e2, e3, e4⟩ := hcel
      have hsz : d1.sz < n := by
        have h5 := congrArg Fo.sz hk3
        rw [Fo.app_sz] at h5
        have h6 := HN.out
        simp only [Fo.sz] at h5
        omega
      have hvv : Val (.cons k1 l1 d1 mn1 mx1 .nil) := by
        have h5 := HV.out
        rw [hk3] at h5
        exact (val_app h5).single1
      have hdd : at_ + 1 + dpS d1 ≤ 39 := by
        have h5 := HD.out
        rw [hk3, dpS_app, dpS] at h5
        omega
      have HC := Lib.hid (IH.out ⟨k1, l1, K1, c1, mn1, mx1, d1⟩ X (at_ + 1) wr hsz ⟨hc3, hc4, hat1⟩ hvv hdd (by omega))
      unfold Nd.v at HC
      simp only at HC
      have hkk := Lib.hid (show kids = (dn.app (.cons k1 l1 d1 mn1 mx1 .nil)).app r1 by rw [hk3, Fo.app_assoc]; rfl)
      have hqq := Lib.hid (show (dn.app (.cons k1 l1 d1 mn1 mx1 .nil)).len = q + 1 by rw [Fo.app_len, hq.out]; rfl)
      have hr2 := hrl.out
      rw [szL_cons] at hr2
      obtain ⟨hz1, hz2⟩ := sizeF_rng k1 d1 mn1 mx1
      have hws := Lib.hid (show w.heap.size + 1 ≤ wr.heap.size by have := hb.out.size; rw [HSZ.out] at this; exact this)
      generalize sizeF k1 d1 mn1 mx1 = z at *
      have hr3 := Lib.hid hr2
      have hsm1 : 0 ≤ min (m + z) 1099511627776 := by omega
      have hsm2 : min (m + z) 1099511627776 ≤ 1099511627776 := by omega
      have HS1 := Lib.hid (fun w => HSM.out m z w ⟨hm1, hm2⟩ ⟨hz1, by omega⟩)
      clear hsz hat1 h3 hk3 hvv hdd hr2
      obtain ⟨zs, hzs⟩ : ∃ zs, min (m + z) 1099511627776 = zs := ⟨_, rfl⟩
      rw [hzs] at hr3 hsm1 hsm2 HS1
      clear hzs
      go_wp2_with (first
        | (go_at_call 31; (with_reducible refine (HC.out).mono ?_); rintro e' w2 ⟨rfl, hb2⟩; have HB2 := Lib.hid hb2; clear hb2)
        | (go_at_call 61; (with_reducible refine (HS1.out _).mono ?_); rintro e' w3 ⟨rfl, rfl⟩))
      exact ⟨⟨q + 1, _, r1, _, hkk, hqq, by go_num, rfl, hsm1, hsm2, hr3, Lib.hid (hb.out.trans (HB2.out.mono hws.out))⟩, by simp [RowKit.intOf] <;> omega⟩
    | nil =>
      have hlt : ¬ (q : Int) < kids.len := by have := hlen.out; simp only [Fo.len] at this; omega
      have hse := Lib.hid (show szL kids 0 = m from hrl.out.symm)
      have hfe := Lib.hid (show R = sizeI 9 m mn mx by rw [← HR.out]; unfold sizeF; rw [hse.out])
      obtain ⟨g1, g2, g3⟩ := HONE.out
      by_cases hx : mx = -1
      · subst hx
        have ht1 : 0 < mn + 1 := by omega
        have HTU := Lib.hid (show sizeI 9 m mn (-1) = min (timesI (mn + 1) m + 3) 1099511627776 by
          have e : turnsI mn (-1) = mn + 1 := by unfold turnsI; rw [if_pos rfl]; omega
          show min (timesI (turnsI mn (-1)) m + 3) 1099511627776 = _
          rw [e])
        clear g3
        by_cases hm0 : m = 0
        · subst hm0
          have HT := Lib.hid (show R = 3 by rw [hfe.out, HTU.out, times_small ht1 (Int.le_refl _) (by simp), Int.mul_zero]; decide)
          have HS1 := Lib.hid (fun w => HSM.out 0 3 w (by decide) (by decide))
          go_wp2_with (go_at_call 61; (with_reducible refine (HS1.out _).mono ?_); rintro e' w3 ⟨rfl, rfl⟩)
          go_ret
          exact ⟨by rw [HT.out]; rfl, hb0.out⟩
        · have hmp : 0 < m := by omega
          have tm : decide (m > 0) = true := decide_eq_true hmp
          have hmn : ¬ m = -1 := by omega
          have hdv : 0 ≤ (1099511627776 : Int) / m ∧ (1099511627776 : Int) / m ≤ (1099511627776 : Int) := ⟨Int.ediv_nonneg (by decide) (by omega), Int.ediv_le_self _ (by decide)⟩
          have hwq0 : wrap64 ((1099511627776 : Int) / m) = (1099511627776 : Int) / m := IntWalk.wrap64_in _ ⟨Int.le_trans (by decide) hdv.1, Int.le_trans hdv.2 (by decide)⟩
          by_cases hbig : (1099511627776 : Int) / m < (mn + 1)
          · have t3 : decide ((mn + 1) > (1099511627776 : Int) / m) = true := decide_eq_true hbig
            have HT := Lib.hid (show R = 1099511627776 by rw [hfe.out, HTU.out, times_big ht1 hmp hbig]; rfl)
            clear hdv hbig
            go_wp2_with fail
            go_ret
            exact ⟨by rw [HT.out]; rfl, hb0.out⟩
          · have t3 : decide ((mn + 1) > (1099511627776 : Int) / m) = false := decide_eq_false hbig
            have hts : (mn + 1) * m ≤ 1099511627776 := Int.not_lt.1 (fun h => hbig ((div_lt_iff ht1 hmp).2 h))
            have hts0 : 0 ≤ (mn + 1) * m := Int.mul_nonneg (by omega) (by omega)
            have HT := Lib.hid (show R = min ((mn + 1) * m + 3) 1099511627776 by rw [hfe.out, HTU.out, times_small ht1 hm1 hts])
            have HS1 := Lib.hid (fun w => HSM.out ((mn + 1) * m) 3 w ⟨hts0, hts⟩ (by decide))
            have hwm : wrap64 ((mn + 1) * m) = (mn + 1) * m := IntWalk.wrap64_in _ ⟨Int.le_trans (by decide) hts0, Int.le_trans hts (by decide)⟩
            generalize min ((mn + 1) * m + 3) 1099511627776 = V at *
            clear hdv hbig hts hts0
            go_wp2_with (go_at_call 61; (with_reducible refine (HS1.out _).mono ?_); rintro e' w3 ⟨rfl, rfl⟩)
            go_ret
            exact ⟨by rw [HT.out]; rfl, hb0.out⟩
      · have hxx : 1 ≤ mx ∧ mx ≤ 8 := by omega
        obtain ⟨hxx1, hxx2⟩ := hxx
        have tx : (mx == -1) = false := by rw [beq_eq_false_iff_ne]; exact hx
        have ht1 : 0 < mx := by omega
        have HTU := Lib.hid (show sizeI 9 m mn mx = min (timesI mx m + 3) 1099511627776 by
          have e : turnsI mn mx = mx := by unfold turnsI; rw [if_neg hx]
          show min (timesI (turnsI mn mx) m + 3) 1099511627776 = _
          rw [e])
        clear g3
        by_cases hm0 : m = 0
        · subst hm0
          have HT := Lib.hid (show R = 3 by rw [hfe.out, HTU.out, times_small ht1 (Int.le_refl _) (by simp), Int.mul_zero]; decide)
          have HS1 := Lib.hid (fun w => HSM.out 0 3 w (by decide) (by decide))
          go_wp2_with (go_at_call 61; (with_reducible refine (HS1.out _).mono ?_); rintro e' w3 ⟨rfl, rfl⟩)
          go_ret
          exact ⟨by rw [HT.out]; rfl, hb0.out⟩
        · have hmp : 0 < m := by omega
          have tm : decide (m > 0) = true := decide_eq_true hmp
          have hmn : ¬ m = -1 := by omega
          have hdv : 0 ≤ (1099511627776 : Int) / m ∧ (1099511627776 : Int) / m ≤ (1099511627776 : Int) := ⟨Int.ediv_nonneg (by decide) (by omega), Int.ediv_le_self _ (by decide)⟩
          have hwq0 : wrap64 ((1099511627776 : Int) / m) = (1099511627776 : Int) / m := IntWalk.wrap64_in _ ⟨Int.le_trans (by decide) hdv.1, Int.le_trans hdv.2 (by decide)⟩
          by_cases hbig : (1099511627776 : Int) / m < mx
          · have t3 : decide (mx > (1099511627776 : Int) / m) = true := decide_eq_true hbig
            have HT := Lib.hid (show R = 1099511627776 by rw [hfe.out, HTU.out, times_big ht1 hmp hbig]; rfl)
            clear hdv hbig
            go_wp2_with fail
            go_ret
            exact ⟨by rw [HT.out]; rfl, hb0.out⟩
          · have t3 : decide (mx > (1099511627776 : Int) / m) = false := decide_eq_false hbig
            have hts : mx * m ≤ 1099511627776 := Int.not_lt.1 (fun h => hbig ((div_lt_iff ht1 hmp).2 h))
            have hts0 : 0 ≤ mx * m := Int.mul_nonneg (by omega) (by omega)
            have HT := Lib.hid (show R = min (mx * m + 3) 1099511627776 by rw [hfe.out, HTU.out, times_small ht1 hm1 hts])
            have HS1 := Lib.hid (fun w => HSM.out (mx * m) 3 w ⟨hts0, hts⟩ (by decide))
            have hwm : wrap64 (mx * m) = mx * m := IntWalk.wrap64_in _ ⟨Int.le_trans (by decide) hts0, Int.le_trans hts (by decide)⟩
            generalize min (mx * m + 3) 1099511627776 = V at *
            clear hdv hbig hts hts0
            go_wp2_with (go_at_call 61; (with_reducible refine (HS1.out _).mono ?_); rintro e' w3 ⟨rfl, rfl⟩)
            go_ret
            exact ⟨by rw [HT.out]; rfl, hb0.out⟩
end Go.Proofs.YtpaehicfndkliaaGreatDoor.De


/- The walks of the document's 'Size', 'Check'. Condition: the path can be read; it is not too great. -/
namespace Go.Proofs.YtpaehicfndkliaaGreatDoor.De
open Go.RowKit Go.Lib Na Go.PN Pa

theorem rsize_n (n : Nat) : ∀ (a : Nd) (X : List Nat) (at_ : Int) (w : World), a.kids.sz < n → a.ok w X → Val (a.fo .nil) → at_ + dpS a.kids ≤ 39 → 0 ≤ at_ → Calls Tryz.prog 31 #[a.v, .int .i64 at_] w fun e w' => e = .returned (.int .i64 (sizeF a.k a.kids a.mn a.mx)) ∧ Below w.heap.size w w' := by
  induction n with
  | zero => intro a X at_ w hn; omega
  | succ n ih =>
    intro a X at_ w hn hok hv hd h0
    obtain ⟨k, l, A, c, mn, mx, kids⟩ := a
    obtain ⟨hc, hc2, hat⟩ := hok
    simp only at hn hc hc2 hat hv hd
    have hk : 1 ≤ k ∧ k ≤ 9 := (one_zero hv.cons.1).1
    have hs : kids.sz ≤ n := Nat.le_of_lt_succ hn
    rcases (show k = 1 ∨ k = 2 ∨ k = 3 ∨ k = 4 ∨ k = 5 ∨ k = 6 ∨ k = 7 ∨ k = 8 ∨ k = 9 by omega) with rfl | rfl | rfl | rfl | rfl | rfl | rfl | rfl | rfl
    · exact rsize_1 n ih l A c mn mx kids X at_ w hs hc hc2 hat hv hd h0
    · exact rsize_2 n ih l A c mn mx kids X at_ w hs hc hc2 hat hv hd h0
    · exact rsize_3 n ih l A c mn mx kids X at_ w hs hc hc2 hat hv hd h0
    · exact rsize_4 n ih l A c mn mx kids X at_ w hs hc hc2 hat hv hd h0
    · exact rsize_5 n ih l A c mn mx kids X at_ w hs hc hc2 hat hv hd h0
    · exact rsize_6 n ih l A c mn mx kids X at_ w hs hc hc2 hat hv hd h0
    · exact rsize_7 n ih l A c mn mx kids X at_ w hs hc hc2 hat hv hd h0
    · exact rsize_8 n ih l A c mn mx kids X at_ w hs hc hc2 hat hv hd h0
    · exact rsize_9 n ih l A c mn mx kids X at_ w hs hc hc2 hat hv hd h0
set_option maxRecDepth 100000 in
set_option maxHeartbeats 4000000 in
theorem rSize_any (a : Nd) (X : List Nat) (w : World) (h : a.ok w X) (hv : Val (a.fo .nil)) (hd : dpS a.kids ≤ 39) : Calls Tryz.prog 9 #[a.v] w fun e w' => e = .returned (.int .i64 (sizeF a.k a.kids a.mn a.mx)) ∧ Below w.heap.size w w' := by
  have HD := Lib.hid (fun (w1 : World) (hb : Below w.heap.size w w1) => rDeep_any a X w1 (h.below hb))
  have HS := Lib.hid (fun (w1 : World) (hb : Below w.heap.size w w1) => rsize_n (a.kids.sz + 1) a X 0 w1 (Nat.lt_succ_self _) (h.below hb) hv (by omega) (Int.le_refl _))
  have HB := Lib.hid ((Below.refl _ w).alloc (Nat.le_refl _) (obj5 a.k a.l a.A a.kids.len a.c a.mn a.mx))
  have HY := Lib.hid (Bx.new w (.int .i64 a.k) (.string a.l) (.slice a.A a.kids.len a.c) (.int .i64 a.mn) (.int .i64 a.mx) 24)
  obtain ⟨D, hD⟩ : ∃ D, rdp a.kids 1 = D := ⟨_, rfl⟩
  rw [hD] at HD
  have td : decide (D > 40) = false := decide_eq_false (by rw [← hD]; unfold rdp; omega)
  unfold Nd.v at *
  clear h hv hd hD
  generalize sizeF a.k a.kids a.mn a.mx = R at *
  go_enter Tryz.func9, Tryz.ntmps9
  go_wp2_with (first
    | (go_at_call 29; (with_reducible refine (HD.out _ HB.out).mono ?_); rintro e w2 ⟨rfl, hb2⟩; have HB2 := Lib.hid (HB.out.trans (hb2.mono HB.out.size)); obtain ⟨⟨x0, x1, x2, x3, x4⟩, y0, y1, y2, y3, y4⟩ := bx_all (HY.out.below hb2); clear hb2)
    | (go_at_call 31; (with_reducible refine (HS.out _ HB2.out).mono ?_); rintro e w3 ⟨rfl, hb3⟩; have HB3 := Lib.hid (HB2.out.trans (hb3.mono HB2.out.size)); clear hb3))
  go_ret
  exact ⟨rfl, HB3.out⟩
set_option maxRecDepth 100000 in
set_option maxHeartbeats 8000000 in
/-- The document's check is the program's. -/
theorem rCheck_any (a : Nd) (X : List Nat) (w : World) (h : a.ok w X) (hlb : Lb (a.fo .nil)) (hs : a.kids.sz ≤ 1000000) : Calls Tryz.prog 8 #[a.v] w fun e w' => e = .returned (.int .i64 (checkE a.k a.l a.kids a.mn a.mx)) ∧ Below w.heap.size w w' := by
  have HD := Lib.hid (fun (w1 : World) (hb : Below w.heap.size w w1) => rDeep_any a X w1 (h.below hb))
  have HC := Lib.hid (fun (w1 : World) (hb : Below w.heap.size w w1) => rchecks_n (a.kids.sz + 1) a X w1 (Nat.lt_succ_self _) hs hlb (h.below hb))
  have HB := Lib.hid ((Below.refl _ w).alloc (Nat.le_refl _) (obj5 a.k a.l a.A a.kids.len a.c a.mn a.mx))
  have HY := Lib.hid (Bx.new w (.int .i64 a.k) (.string a.l) (.slice a.A a.kids.len a.c) (.int .i64 a.mn) (.int .i64 a.mx) 24)
  obtain ⟨D, hD⟩ : ∃ D, rdp a.kids 1 = D := ⟨_, rfl⟩
  rw [hD] at HD
  obtain ⟨R, hR⟩ : ∃ R, checkE a.k a.l a.kids a.mn a.mx = R := ⟨_, rfl⟩
  rw [hR]
  have hg := dpS_ge a.kids
  by_cases hd : 20 < dpS a.kids + 1
  · have td : decide (D > 20) = true := decide_eq_true (by rw [← hD]; unfold rdp; omega)
    have HT := Lib.hid (show R = 4 by rw [← hR]; unfold checkE; rw [if_pos ((dp_iff a.kids).2 hd)])
    unfold Nd.v at *
    clear h hlb hD hd hR hg
    go_enter Tryz.func8, Tryz.ntmps8
    go_wp2_with (first
      | (go_at_call 29; (with_reducible refine (HD.out _ HB.out).mono ?_); rintro e w2 ⟨rfl, hb2⟩; have HB2 := Lib.hid (HB.out.trans (hb2.mono HB.out.size)); clear hb2))
    go_ret
    exact ⟨by rw [HT.out]; rfl, HB2.out⟩
  · have td : decide (D > 20) = false := decide_eq_false (by rw [← hD]; unfold rdp; omega)
    have hdp : ¬ 20 < dp a.kids 1 := fun h => hd ((dp_iff a.kids).1 h)
    by_cases he : allE a.k a.l a.kids a.mn a.mx = 0
    · have hv : Val (a.fo .nil) := by
        unfold Val Nd.fo
        rw [alL_cons, if_pos rfl, he]
        rfl
      have HS := Lib.hid (fun (w1 : World) (hb : Below w.heap.size w w1) => rSize_any a X w1 (h.below hb) hv (by omega))
      rw [he] at HC
      have HRR := Lib.hid (show R = if 60 < sizeF a.k a.kids a.mn a.mx then 5 else 0 by rw [← hR]; unfold checkE; rw [if_neg hdp, he, if_neg (by decide)])
      unfold Nd.v at *
      clear h hlb hD hd hR hg hdp he hv
      generalize sizeF a.k a.kids a.mn a.mx = S at *
      by_cases h60 : 60 < S
      · have t60 : decide (S > 60) = true := decide_eq_true h60
        have HT := Lib.hid (show R = 5 by rw [HRR.out, if_pos h60])
        clear HRR h60
        go_enter Tryz.func8, Tryz.ntmps8
        go_wp2_with (first
          | (go_at_call 29; (with_reducible refine (HD.out _ HB.out).mono ?_); rintro e w2 ⟨rfl, hb2⟩; have HB2 := Lib.hid (HB.out.trans (hb2.mono HB.out.size)); have HY2 := Lib.hid (HY.out.below hb2); obtain ⟨⟨x0, x1, x2, x3, x4⟩, y0, y1, y2, y3, y4⟩ := bx_all HY2.out; clear hb2)
          | (go_at_call 30; (with_reducible refine (HC.out _ HB2.out).mono ?_); rintro e w3 ⟨rfl, hb3⟩; have HB3 := Lib.hid (HB2.out.trans (hb3.mono HB2.out.size)); obtain ⟨⟨p0, p1, p2, p3, p4⟩, q0, q1, q2, q3, q4⟩ := bx_all (HY2.out.below hb3); clear hb3)
          | (go_at_call 9; (with_reducible refine (HS.out _ HB3.out).mono ?_); rintro e w4 ⟨rfl, hb4⟩; have HB4 := Lib.hid (HB3.out.trans (hb4.mono HB3.out.size)); clear hb4))
        go_ret
        exact ⟨by rw [HT.out]; rfl, HB4.out⟩
      · have t60 : decide (S > 60) = false := decide_eq_false h60
        have HT := Lib.hid (show R = 0 by rw [HRR.out, if_neg h60])
        clear HRR h60
        go_enter Tryz.func8, Tryz.ntmps8
        go_wp2_with (first
          | (go_at_call 29; (with_reducible refine (HD.out _ HB.out).mono ?_); rintro e w2 ⟨rfl, hb2⟩; have HB2 := Lib.hid (HB.out.trans (hb2.mono HB.out.size)); have HY2 := Lib.hid (HY.out.below hb2); obtain ⟨⟨x0, x1, x2, x3, x4⟩, y0, y1, y2, y3, y4⟩ := bx_all HY2.out; clear hb2)
          | (go_at_call 30; (with_reducible refine (HC.out _ HB2.out).mono ?_); rintro e w3 ⟨rfl, hb3⟩; have HB3 := Lib.hid (HB2.out.trans (hb3.mono HB2.out.size)); obtain ⟨⟨p0, p1, p2, p3, p4⟩, q0, q1, q2, q3, q4⟩ := bx_all (HY2.out.below hb3); clear hb3)
          | (go_at_call 9; (with_reducible refine (HS.out _ HB3.out).mono ?_); rintro e w4 ⟨rfl, hb4⟩; have HB4 := Lib.hid (HB3.out.trans (hb4.mono HB3.out.size)); clear hb4))
        go_ret
        exact ⟨by rw [HT.out]; rfl, HB4.out⟩
    · have te : (allE a.k a.l a.kids a.mn a.mx == 0) = false := by rw [beq_eq_false_iff_ne]; exact he
      have HT := Lib.hid (show R = allE a.k a.l a.kids a.mn a.mx by rw [← hR]; unfold checkE; rw [if_neg hdp, if_pos he])
      unfold Nd.v at *
      clear h hlb hD hd hR hg hdp he
      generalize allE a.k a.l a.kids a.mn a.mx = E at *
      go_enter Tryz.func8, Tryz.ntmps8
      go_wp2_with (first
        | (go_at_call 29; (with_reducible refine (HD.out _ HB.out).mono ?_); rintro e w2 ⟨rfl, hb2⟩; have HB2 := Lib.hid (HB.out.trans (hb2.mono HB.out.size)); have HY2 := Lib.hid (HY.out.below hb2); obtain ⟨⟨x0, x1, x2, x3, x4⟩, y0, y1, y2, y3, y4⟩ := bx_all HY2.out; clear hb2)
        | (go_at_call 30; (with_reducible refine (HC.out _ HB2.out).mono ?_); rintro e w3 ⟨rfl, hb3⟩; have HB3 := Lib.hid (HB2.out.trans (hb3.mono HB2.out.size)); clear hb3))
      go_ret
      exact ⟨by rw [HT.out]; rfl, HB3.out⟩
end Go.Proofs.YtpaehicfndkliaaGreatDoor.De
