/- The walk of 'all'. Condition: the tree can be read. -/
import Derived.Test.YtpaehicfndkliaaGreatDoorPe
namespace Go.Proofs.YtpaehicfndkliaaGreatDoor.Pa
open Go.RowKit Go.Lib Na Go.PN

theorem oneE_rng (k : Int) (l : ByteArray) (d : Fo) (mn mx : Int) : 0 ≤ oneE k l d mn mx ∧ oneE k l d mn mx ≤ 2 := by
  unfold oneE
  repeat' split
  all_goals omega
theorem alL_rng (f : Fo) (e : Int) (h : 0 ≤ e ∧ e ≤ 2) : 0 ≤ alL f e ∧ alL f e ≤ 2 := by
  induction f generalizing e with
  | nil => exact h
  | cons k l d mn mx r ih1 ih2 =>
    rw [alL_cons]
    split
    · exact ih2 _ (ih1 _ (oneE_rng _ _ _ _ _))
    · exact h
theorem allE_rng (k : Int) (l : ByteArray) (d : Fo) (mn mx : Int) : 0 ≤ allE k l d mn mx ∧ allE k l d mn mx ≤ 2 := alL_rng _ _ (oneE_rng _ _ _ _ _)
set_option maxRecDepth 100000 in
set_option maxHeartbeats 4000000 in
theorem all_n (n : Nat) : ∀ (a : Nd) (X : List Nat) (w : World), a.kids.sz < n → a.ok w X →
    Calls Tryz.prog 55 #[a.v] w fun e w' => e = .returned (.int .i64 (allE a.k a.l a.kids a.mn a.mx)) ∧ Below w.heap.size w w' := by
  induction n with
  | zero => intro a X w hn; omega
  | succ n ih =>
    intro a X w hn hok
    have HO := Lib.hid (fun (w1 : World) (hb1 : Below w.heap.size w w1) => one_any a X w1 (hok.below hb1))
    obtain ⟨k, l, A, c, mn, mx, kids⟩ := a
    obtain ⟨hc, hc2, hat⟩ := hok
    unfold Nd.v at HO ⊢
    simp only at hn hc hc2 hat HO ⊢
    have HW := Lib.hid ((Below.refl _ w).alloc (Nat.le_refl _) (.cells #[.int .i64 k, .string l, .slice A kids.len c, .int .i64 mn, .int .i64 mx] 24))
    have HN := Lib.hid hn
    have HA := Lib.hid hat
    have IH := Lib.hid ih
    have HE := Lib.hid (show allE k l kids mn mx = alL kids (oneE k l kids mn mx) from rfl)
    have hrg := oneE_rng k l kids mn mx
    generalize oneE k l kids mn mx = E at *
    clear hat hn ih
    go_enter Tryz.func55, Tryz.ntmps55
    go_wp2_with (go_at_call 84; (with_reducible refine (HO.out _ HW.out).mono ?_); rintro e w1 ⟨rfl, hb1⟩)
    go_loopw [3, 4] (fun ev iv wr => ∃ (q : Nat) (dn r : Fo) (e : Int), Hid (kids = dn.app r) ∧ Hid (dn.len = q) ∧ iv = .int .i64 q ∧ ev = .int .i64 e ∧ 0 ≤ e ∧ e ≤ 2 ∧ Hid (alL r e = alL kids E) ∧ Below (w.heap.size + 1) (w.alloc (.cells #[.int .i64 k, .string l, .slice A kids.len c, .int .i64 mn, .int .i64 mx] 24)) wr) (fun _ iv _ => kids.len - (RowKit.intOf iv).toNat)
    case atStart => exact ⟨0, .nil, kids, E, Lib.hid rfl, Lib.hid rfl, rfl, rfl, hrg.1, hrg.2, Lib.hid rfl, hb1.mono (by simp)⟩
    case round =>
      obtain ⟨q, dn, r, e, hk, hq, rfl, rfl, ho1, ho2, hlp, hb⟩ := hrel
      have hlen := Lib.hid (show kids.len = q + r.len by rw [hk.out, Fo.app_len, hq.out])
      have hb0 := box_below hb
      obtain ⟨hx0, hx1, hx2, hx3, hx4⟩ := box_cells _ _ _ _ _ _ _ hb
      clear hx0 hx1 hx3 hx4
      cases r with
      | nil =>
        have hlt : ¬ (q : Int) < kids.len := by have := hlen.out; simp only [Fo.len] at this; omega
        have hE := Lib.hid (show alL kids E = e from hlp.out.symm)
        go_wp2_with fail
        go_ret
        exact ⟨by rw [HE.out, hE.out]; rfl, hb0⟩
      | cons k1 l1 d1 mn1 mx1 r1 =>
        have hlt : (q : Int) < kids.len := by have := hlen.out; simp only [Fo.len] at this; omega
        cases te : e == 0
        · have hE := Lib.hid (show alL kids E = e by rw [← hlp.out, alL_ne _ _ (by simpa using te)])
          go_wp2_with fail
          go_ret
          exact ⟨by rw [HE.out, hE.out]; rfl, hb0⟩
        · have he0 : e = 0 := by simpa using te
          have hq0 : (0 : Int) ≤ q := by omega
          obtain ⟨b0, o0, hA0⟩ := Nd.first (a := ⟨0, l, A, c, mn, mx, kids⟩) HA.out hk.out
          simp only at hA0
          subst hA0
          have h3 := HA.out.below hb0
          rw [hk.out] at h3
          obtain ⟨K1, c1, hcel, hc3, hc4, hat1⟩ := h3.nth hq.out
          have hcel1 := hcel.1
          have hcel2 := hcel.2.1
          have hcel3 := hcel.2.2.1
          have hcel4 := hcel.2.2.2.1
          have hcel5 := hcel.2.2.2.2
          have hsz : d1.sz < n := by
            have h5 := congrArg Fo.sz hk.out
            rw [Fo.app_sz] at h5
            have h6 := HN.out
            simp only [Fo.sz] at h5
            omega
          have HC := Lib.hid (fun (w1 : World) (hb1 : Below wr.heap.size wr w1) => IH.out ⟨k1, l1, K1, c1, mn1, mx1, d1⟩ X w1 hsz ⟨hc3, hc4, hat1.below hb1⟩)
          unfold Nd.v at HC
          simp only at HC
          have hl1 := hlp.out
          rw [alL_cons, if_pos he0] at hl1
          have hz := allE_rng k1 l1 d1 mn1 mx1
          generalize allE k1 l1 d1 mn1 mx1 = z at *
          have hE := Lib.hid hl1
          have hkk := Lib.hid (show kids = (dn.app (.cons k1 l1 d1 mn1 mx1 .nil)).app r1 by rw [hk.out, Fo.app_assoc]; rfl)
          have hqq := Lib.hid (show (dn.app (.cons k1 l1 d1 mn1 mx1 .nil)).len = q + 1 by rw [Fo.app_len, hq.out]; rfl)
          have hws := Lib.hid (show w.heap.size + 1 ≤ wr.heap.size by have := hb.size; simpa using this)
          clear hl1 hsz hat1 hcel h3 he0
          go_wp2_with (go_at_call 55; (with_reducible refine (HC.out _ (Below.refl _ _)).mono ?_); rintro e w2 ⟨rfl, hb2⟩)
          exact ⟨⟨q + 1, _, r1, z, hkk, hqq, by go_num, rfl, hz.1, hz.2, hE, hb.trans (hb2.mono hws.out)⟩, by simp [RowKit.intOf]; omega⟩
end Go.Proofs.YtpaehicfndkliaaGreatDoor.Pa
