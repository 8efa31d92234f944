
/- The walks of 'deep' and 'Deep'. Condition: the tree can be read. -/
import Derived.Test.YtpaehicfndkliaaGreatDoorPk
namespace Go.Proofs.YtpaehicfndkliaaGreatDoor.Pa
open Go.RowKit Go.Lib Na Go.PN

def Fo.sz : Fo → Nat
  | .nil => 0
  | .cons _ _ d _ _ r => d.sz + r.sz + 1
theorem Fo.app_sz (f g : Fo) : (f.app g).sz = f.sz + g.sz := by
  induction f with
  | nil => simp [Fo.app, Fo.sz]
  | cons k l kids mn mx rest _ ih => rw [Fo.app, Fo.sz, Fo.sz, ih]; omega
/-- How deep a row's paths are at most, but for what is told already. -/
def lp : Fo → Int → Int → Int
  | .nil, _, out => out
  | .cons _ _ d _ _ r, at_, out =>
    let o := max out (if 40 < at_ + 1 then 1 else lp d (at_ + 1) 0 + 1)
    if 40 < at_ + o then o else lp r at_ o
def dp (d : Fo) (at_ : Int) : Int := if 40 < at_ then 1 else lp d at_ 0 + 1
theorem lp_cons (k : Int) (l : ByteArray) (d : Fo) (mn mx : Int) (r : Fo) (at_ out : Int) : lp (.cons k l d mn mx r) at_ out = if 40 < at_ + max out (dp d (at_ + 1)) then max out (dp d (at_ + 1)) else lp r at_ (max out (dp d (at_ + 1))) := rfl
theorem lp_ge (f : Fo) (at_ out : Int) : out ≤ lp f at_ out := by
  induction f generalizing at_ out with
  | nil => exact Int.le_refl _
  | cons k l d mn mx r ih1 ih2 =>
    rw [lp_cons]
    generalize dp d (at_ + 1) = z
    split
    · omega
    · exact Int.le_trans (by omega) (ih2 at_ (max out z))
theorem lp_le (f : Fo) (at_ out : Int) (h : at_ ≤ 40) (ho : at_ + out ≤ 42) : at_ + lp f at_ out ≤ 42 := by
  induction f generalizing at_ out with
  | nil => exact ho
  | cons k l d mn mx r ih1 ih2 =>
    rw [lp_cons]
    have h0 : at_ + dp d (at_ + 1) ≤ 42 := by
      unfold dp
      split
      · omega
      · have := ih1 (at_ + 1) 0 (by omega) (by omega); omega
    generalize dp d (at_ + 1) = z at *
    split
    · omega
    · exact ih2 _ _ h (by omega)
theorem dp_rng (f : Fo) (at_ : Int) : 1 ≤ dp f at_ ∧ (at_ ≤ 41 → at_ + dp f at_ ≤ 43) := by
  unfold dp
  split
  · omega
  · have h1 := lp_ge f at_ 0
    have h2 := lp_le f at_ 0 (by omega) (by omega)
    omega
theorem max_nil {i : Int} (h0 : 0 ≤ i) : True := trivial
set_option maxRecDepth 100000 in
set_option maxHeartbeats 4000000 in
theorem deep_n (n : Nat) : ∀ (a : Nd) (X : List Nat) (at_ : Int) (w : World), a.kids.sz < n → a.ok w X → 1 ≤ at_ → at_ ≤ 41 →
    Calls Tryz.prog 83 #[a.v, .int .i64 at_] w fun e w' => e = .returned (.int .i64 (dp a.kids at_)) ∧ Below w.heap.size w w' := by
  induction n with
  | zero => intro a X at_ w hn; omega
  | succ n ih =>
    intro a X at_ w hn hok h1 h41
    obtain ⟨k, l, A, c, mn, mx, kids⟩ := a
    obtain ⟨hc, hc2, hat⟩ := hok
    unfold Nd.v
    simp only at hn hc hc2 hat ⊢
    have HW := Lib.hid ((Below.refl _ w).alloc (Nat.le_refl _) (.cells #[.int .i64 k, .string l, .slice A kids.len c, .int .i64 mn, .int .i64 mx] 24))
    by_cases h40 : 40 < at_
    · have t40 : decide (at_ > 40) = true := decide_eq_true h40
      have hD := Lib.hid (show dp kids at_ = 1 from if_pos h40)
      clear hat ih
      go_enter Tryz.func83, Tryz.ntmps83
      go_wp2_with fail
      go_ret
      exact ⟨by rw [hD.out]; rfl, HW.out⟩
    · have h40' : at_ ≤ 40 := by omega
      have t40 : decide (at_ > 40) = false := decide_eq_false h40
      have hD := Lib.hid (show dp kids at_ = lp kids at_ 0 + 1 from if_neg h40)
      have HR := Lib.hid (lp_ge kids at_ 0)
      have HR2 := Lib.hid (lp_le kids at_ 0 h40' (by omega))
      have HN := Lib.hid hn
      have HA := Lib.hid hat
      have IH := Lib.hid ih
      clear hat hn ih
      go_enter Tryz.func83, Tryz.ntmps83
      go_wp2_with fail
      go_loopw [5, 13] (fun ov iv wr => ∃ (q : Nat) (dn r : Fo) (out : Int), Hid (kids = dn.app r) ∧ Hid (dn.len = q) ∧ iv = .int .i64 q ∧ ov = .int .i64 out ∧ 0 ≤ out ∧ at_ + out ≤ 42 ∧ Hid (lp r at_ out = lp kids at_ 0) ∧ Below w.heap.size w wr) (fun _ iv _ => kids.len - (RowKit.intOf iv).toNat)
      case atStart => exact ⟨0, .nil, kids, 0, Lib.hid rfl, Lib.hid rfl, rfl, rfl, by omega, by omega, Lib.hid rfl, HW.out⟩
      case round =>
        obtain ⟨q, dn, r, out, hk, hq, rfl, rfl, ho1, ho2, hlp, hb⟩ := hrel
        have hlen := Lib.hid (show kids.len = q + r.len by rw [hk.out, Fo.app_len, hq.out])
        cases r with
        | nil =>
          have hlt : ¬ (q : Int) < kids.len := by have := hlen.out; simp only [Fo.len] at this; omega
          have hE := Lib.hid (show lp kids at_ 0 = out from hlp.out.symm)
          go_wp2_with fail
          go_ret
          exact ⟨by rw [hD.out, hE.out]; rfl, hb⟩
        | cons k1 l1 d1 mn1 mx1 r1 =>
          have hlt : (q : Int) < kids.len := by have := hlen.out; simp only [Fo.len] at this; omega
          have hq0 : (0 : Int) ≤ q := by omega
          have hA1 : ∃ b0 o0, A = some ⟨b0, o0, none⟩ := by
            have h3 := HA.out
            rw [hk.out] at h3
            cases dn with
            | nil => obtain ⟨b, o, K, c, e, _⟩ := h3; exact ⟨b, o, e⟩
            | cons => obtain ⟨b, o, K, c, e, _⟩ := h3; exact ⟨b, o, e⟩
          obtain ⟨b0, o0, rfl⟩ := hA1
          have h3 := HA.out.below hb
          rw [hk.out] at h3
          obtain ⟨K1, c1, hcel, hc3, hc4, hat1⟩ := h3.nth hq.out
          have hcel1 := hcel.1
          have hcel2 := hcel.2.1
          have hcel3 := hcel.2.2.1
          have hcel4 := hcel.2.2.2.1
          have hcel5 := hcel.2.2.2.2
          have hz := dp_rng d1 (at_ + 1)
          have hsz : d1.sz < n := by
            have h5 := congrArg Fo.sz hk.out
            rw [Fo.app_sz] at h5
            have h6 := HN.out
            simp only [Fo.sz] at h5
            omega
          have HC := Lib.hid (fun (w1 : World) (hb1 : Below wr.heap.size wr w1) => IH.out ⟨k1, l1, K1, c1, mn1, mx1, d1⟩ X (at_ + 1) w1 hsz ⟨hc3, hc4, hat1.below hb1⟩ (by omega) (by omega))
          have HB1 := Lib.hid (fun o => (Below.refl _ wr).alloc (Nat.le_refl _) o)
          have hl1 := hlp.out
          rw [lp_cons] at hl1
          have hz1 : 0 ≤ max out (dp d1 (at_ + 1)) := by omega
          have hz2 : at_ + max out (dp d1 (at_ + 1)) ≤ 42 := by omega
          unfold Nd.v at HC
          simp only at HC
          generalize dp d1 (at_ + 1) = z at *
          have HL1 := Lib.hid hl1
          clear hl1 hz hsz hat1 hcel h3
          by_cases hoz : out < z
          · have hmx : max out z = z := by omega
            rw [hmx] at hz1 hz2 HL1
            clear hmx
            by_cases hbr : 40 < at_ + z
            · have tb : decide (at_ + z > 40) = true := decide_eq_true hbr
              have hE := Lib.hid (show lp kids at_ 0 = z by rw [← HL1.out, if_pos hbr])
              clear HL1
              go_wp2_with (go_at_call 83; (with_reducible refine (HC.out _ (HB1.out _)).mono ?_); rintro e w2 ⟨rfl, hb2⟩)
              go_ret
              exact ⟨by rw [hD.out, hE.out]; rfl, hb.trans (((HB1.out _).mono hb.size).trans (hb2.mono (Nat.le_trans hb.size (HB1.out _).size)))⟩
            · have tb : decide (at_ + z > 40) = false := decide_eq_false hbr
              have hE := Lib.hid (show lp r1 at_ z = lp kids at_ 0 by rw [← HL1.out, if_neg hbr])
              have hkk := Lib.hid (show kids = (dn.app (.cons k1 l1 d1 mn1 mx1 .nil)).app r1 by rw [hk.out, Fo.app_assoc]; rfl)
              have hqq := Lib.hid (show (dn.app (.cons k1 l1 d1 mn1 mx1 .nil)).len = q + 1 by rw [Fo.app_len, hq.out]; rfl)
              clear HL1
              go_wp2_with (go_at_call 83; (with_reducible refine (HC.out _ (HB1.out _)).mono ?_); rintro e w2 ⟨rfl, hb2⟩)
              exact ⟨⟨q + 1, _, r1, z, hkk, hqq, by go_num, rfl, hz1, hz2, hE, hb.trans (((HB1.out _).mono hb.size).trans (hb2.mono (Nat.le_trans hb.size (HB1.out _).size)))⟩, by simp [RowKit.intOf]; omega⟩
          · have hmx : max out z = out := by omega
            rw [hmx] at hz1 hz2 HL1
            clear hmx
            by_cases hbr : 40 < at_ + out
            · have tb : decide (at_ + out > 40) = true := decide_eq_true hbr
              have hE := Lib.hid (show lp kids at_ 0 = out by rw [← HL1.out, if_pos hbr])
              clear HL1
              go_wp2_with (go_at_call 83; (with_reducible refine (HC.out _ (HB1.out _)).mono ?_); rintro e w2 ⟨rfl, hb2⟩)
              go_ret
              exact ⟨by rw [hD.out, hE.out]; rfl, hb.trans (((HB1.out _).mono hb.size).trans (hb2.mono (Nat.le_trans hb.size (HB1.out _).size)))⟩
            · have tb : decide (at_ + out > 40) = false := decide_eq_false hbr
              have hE := Lib.hid (show lp r1 at_ out = lp kids at_ 0 by rw [← HL1.out, if_neg hbr])
              have hkk := Lib.hid (show kids = (dn.app (.cons k1 l1 d1 mn1 mx1 .nil)).app r1 by rw [hk.out, Fo.app_assoc]; rfl)
              have hqq := Lib.hid (show (dn.app (.cons k1 l1 d1 mn1 mx1 .nil)).len = q + 1 by rw [Fo.app_len, hq.out]; rfl)
              clear HL1
              go_wp2_with (go_at_call 83; (with_reducible refine (HC.out _ (HB1.out _)).mono ?_); rintro e w2 ⟨rfl, hb2⟩)
              exact ⟨⟨q + 1, _, r1, out, hkk, hqq, by go_num, rfl, hz1, hz2, hE, hb.trans (((HB1.out _).mono hb.size).trans (hb2.mono (Nat.le_trans hb.size (HB1.out _).size)))⟩, by simp [RowKit.intOf]; omega⟩
theorem Deep_any (a : Nd) (X : List Nat) (w : World) (h : a.ok w X) : Calls Tryz.prog 54 #[a.v] w fun e w' => e = .returned (.int .i64 (dp a.kids 1)) ∧ Below w.heap.size w w' := by
  have HB1 := Lib.hid (fun o => (Below.refl _ w).alloc (Nat.le_refl _) o)
  have HC := Lib.hid (fun (w1 : World) (hb1 : Below w.heap.size w w1) => deep_n (a.kids.sz + 1) a X 1 w1 (by omega) (h.below hb1) (by omega) (by omega))
  clear h
  unfold Nd.v at *
  go_enter Tryz.func54, Tryz.ntmps54
  go_wp2_with (go_at_call 83; (with_reducible refine (HC.out _ (HB1.out _)).mono ?_); rintro e w2 ⟨rfl, hb2⟩)
  go_ret
  exact ⟨rfl, (HB1.out _).trans (hb2.mono (HB1.out _).size)⟩
end Go.Proofs.YtpaehicfndkliaaGreatDoor.Pa
