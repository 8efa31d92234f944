
/- The walk of the document's 'Same', at equal trees. Condition: the trees can be read. -/
import Derived.Test.YtpaehicfndkliaaGreatDoorDx
import Derived.Test.YtpaehicfndkliaaGreatDoorDt
import Derived.Deep.RegionHeld3
namespace Go.Proofs.YtpaehicfndkliaaGreatDoor.De
open Go.RowKit Go.Lib Na Go.PN Pa

set_option maxRecDepth 100000 in
set_option maxHeartbeats 32000000 in
theorem rsame_n (n : Nat) : ∀ (a b : Nd) (X : List Nat) (at_ : Int) (w : World), a.kids.sz < n → a.ok w X → b.ok w X → a.fo .nil = b.fo .nil → 0 ≤ at_ → at_ + dpt (a.fo .nil) ≤ 401 →
    Calls Tryz.prog 40 #[a.v, b.v, .int .i64 at_] w fun e w' => e = .returned (.bool true) ∧ Below w.heap.size w w' := by
  induction n with
  | zero => intro a b X at_ w hn; omega
  | succ n ih =>
    intro a b X at_ w hn hok hok' heq h0 hd
    obtain ⟨k, l, A, c, mn, mx, kids⟩ := a
    obtain ⟨k', l', A', c', mn', mx', kids'⟩ := b
    obtain ⟨hc, hc2, hat⟩ := hok
    obtain ⟨hc', hc2', hat'⟩ := hok'
    unfold Nd.fo at heq hd
    unfold Nd.v
    simp only at hn hc hc2 hat hc' hc2' hat' heq hd ⊢
    obtain ⟨rfl, rfl, rfl, rfl, rfl, _⟩ := Fo.cons.inj heq
    rw [dpt, dpt] at hd
    have hdg := dpt_ge kids
    have hdk : at_ + 1 + dpt kids ≤ 401 := by omega
    have HWW := Lib.hid (show Below w.heap.size w ((w.alloc (cells5 k l A kids.len c mn mx)).alloc (cells5 k l A' kids.len c' mn mx)) from ((Below.refl _ _).alloc (Nat.le_refl _) _).alloc (by simp) _)
    have HN := Lib.hid hn
    have HA := Lib.hid hat
    have HA' := Lib.hid hat'
    have IH := Lib.hid ih
    have HD := Lib.hid hdk
    have t400 : decide (at_ > 400) = false := decide_eq_false (by omega)
    have tt : (l.toList == l.toList) = true := beq_self_eq_true _
    have tw : IntKind.i64.wrap (at_ + 1) = at_ + 1 := IntWalk.i64_in _ ⟨by omega, by omega⟩
    have hK : ((k == 2) = true ∧ (k == 9) = false) ∨ ((k == 2) = false ∧ (k == 3) = true ∧ (k == 9) = false) ∨ ((k == 2) = false ∧ (k == 3) = false ∧ (k == 9) = true) ∨ ((k == 2) = false ∧ (k == 3) = false ∧ (k == 9) = false) := by
      by_cases h2 : k = 2
      · exact Or.inl ⟨by rw [beq_iff_eq]; exact h2, by rw [beq_eq_false_iff_ne]; omega⟩
      · by_cases h3 : k = 3
        · exact Or.inr (Or.inl ⟨by rw [beq_eq_false_iff_ne]; omega, by rw [beq_iff_eq]; exact h3, by rw [beq_eq_false_iff_ne]; omega⟩)
        · by_cases h9 : k = 9
          · exact Or.inr (Or.inr (Or.inl ⟨by rw [beq_eq_false_iff_ne]; omega, by rw [beq_eq_false_iff_ne]; omega, by rw [beq_iff_eq]; exact h9⟩))
          · exact Or.inr (Or.inr (Or.inr ⟨by rw [beq_eq_false_iff_ne]; omega, by rw [beq_eq_false_iff_ne]; omega, by rw [beq_eq_false_iff_ne]; omega⟩))
    clear hat hat' hn ih heq hd hdk hdg
    rcases hK with ⟨t2, t9⟩ | ⟨t2, t3, t9⟩ | ⟨t2, t3, t9⟩ | ⟨t2, t3, t9⟩
    all_goals
      go_enter Tryz.func40, Tryz.ntmps40
      go_wp2_with fail
      go_loopw [7] (fun iv wr => ∃ (q : Nat) (dn r : Fo), Hid (kids = dn.app r) ∧ Hid (dn.len = q) ∧ iv = .int .i64 q ∧ Hid (Below (w.heap.size + 1 + 1) ((w.alloc (cells5 k l A kids.len c mn mx)).alloc (cells5 k l A' kids.len c' mn mx)) wr)) (fun iv _ => kids.len - (RowKit.intOf iv).toNat)
      case atStart => exact ⟨0, .nil, kids, Lib.hid rfl, Lib.hid rfl, rfl, Lib.hid (Below.refl _ _)⟩
      case round =>
        obtain ⟨q, dn, r, hk, hq, rfl, HB⟩ := hrel
        have hlen := Lib.hid (show kids.len = q + r.len by rw [hk.out, Fo.app_len, hq.out])
        have HB1 := Lib.hid (HWW.out.trans (HB.out.mono (by omega)))
        have hbx := (box2 HB.out).1
        have hbx2 := (box2 HB.out).2.1
        cases r with
        | nil =>
          have hlt : ¬ (q : Int) < kids.len := by have := hlen.out; simp only [Fo.len] at this; omega
          have hlt2 : decide (q < kids.len) = false := decide_eq_false (by omega)
          go_wp2_with fail
          go_ret
          exact ⟨rfl, HB1.out⟩
        | cons k1 l1 d1 mn1 mx1 r1 =>
          have hlt : (q : Int) < kids.len := by have := hlen.out; simp only [Fo.len] at this; omega
          have hlt2 : decide (q < kids.len) = true := decide_eq_true (by omega)
          have hq0 : (0 : Int) ≤ q := by omega
          obtain ⟨b0, o0, hA0⟩ := Nd.first (a := ⟨0, ByteArray.empty, A, c, 0, 0, kids⟩) HA.out hk.out
          obtain ⟨b1, o1, hA1⟩ := Nd.first (a := ⟨0, ByteArray.empty, A', c', 0, 0, kids⟩) HA'.out hk.out
          simp only at hA0 hA1
          subst hA0 hA1
          have h3 := HA.out.below HB1.out
          rw [hk.out] at h3
          obtain ⟨KA, cA, hcel, hc3, hc4, hat1⟩ := h3.nth hq.out
          have h4 := HA'.out.below HB1.out
          rw [hk.out] at h4
          obtain ⟨KB, cB, hcelb, hd3, hd4, hat2⟩ := h4.nth hq.out
          have hcel1 := hcel.1
          have hcel2 := hcel.2.1
          have hcel3 := hcel.2.2.1
          have hcel4 := hcel.2.2.2.1
          have hcel5 := hcel.2.2.2.2
          have hc1 := hcelb.1
          have hc2 := hcelb.2.1
          have hc3' := hcelb.2.2.1
          have hc4' := hcelb.2.2.2.1
          have hc5 := hcelb.2.2.2.2
          have hsz : d1.sz < n := by
            have h5 := congrArg Fo.sz hk.out
            rw [Fo.app_sz] at h5
            have h6 := HN.out
            simp only [Fo.sz] at h5
            omega
          have hdd : at_ + 1 + dpt (.cons k1 l1 d1 mn1 mx1 .nil) ≤ 401 := by
            have h5 := HD.out
            rw [hk.out, dpt_app, dpt] at h5
            rw [dpt, dpt]
            have := dpt_ge d1
            omega
          have HC := Lib.hid (fun (w1 : World) (hb1 : Below wr.heap.size wr w1) => IH.out ⟨k1, l1, KA, cA, mn1, mx1, d1⟩ ⟨k1, l1, KB, cB, mn1, mx1, d1⟩ X (at_ + 1) w1 hsz ⟨hc3, hc4, hat1.below hb1⟩ ⟨hd3, hd4, hat2.below hb1⟩ rfl (by omega) hdd)
          unfold Nd.v at HC
          simp only at HC
          have hkk := Lib.hid (show kids = (dn.app (.cons k1 l1 d1 mn1 mx1 .nil)).app r1 by rw [hk.out, Fo.app_assoc]; rfl)
          have hqq := Lib.hid (show (dn.app (.cons k1 l1 d1 mn1 mx1 .nil)).len = q + 1 by rw [Fo.app_len, hq.out]; rfl)
          have hws := Lib.hid (show w.heap.size + 1 + 1 ≤ wr.heap.size by have := HB.out.size; simpa using this)
          have HS := Lib.hid (fun (w1 : World) (hb : Below wr.heap.size wr w1) => (⟨(hb.cell (cell_lt hbx)).trans hbx, (hb.cell (cell_lt hbx2)).trans hbx2, (hb.cell (cell_lt hcel1)).trans hcel1, (hb.cell (cell_lt hcel2)).trans hcel2, (hb.cell (cell_lt hcel3)).trans hcel3, (hb.cell (cell_lt hcel4)).trans hcel4, (hb.cell (cell_lt hcel5)).trans hcel5, (hb.cell (cell_lt hc1)).trans hc1, (hb.cell (cell_lt hc2)).trans hc2, (hb.cell (cell_lt hc3')).trans hc3', (hb.cell (cell_lt hc4')).trans hc4', (hb.cell (cell_lt hc5)).trans hc5⟩ :
            (w1.cell? ⟨w.heap.size, 2, none⟩ = some (.slice (some ⟨b0, o0, none⟩) kids.len c) ∧ w1.cell? ⟨w.heap.size + 1, 2, none⟩ = some (.slice (some ⟨b1, o1, none⟩) kids.len c') ∧ w1.cell? ⟨b0, o0 + q * 5, none⟩ = some (.int .i64 k1) ∧ w1.cell? ⟨b0, o0 + q * 5 + 1, none⟩ = some (.string l1) ∧ w1.cell? ⟨b0, o0 + q * 5 + 2, none⟩ = some (.slice KA d1.len cA) ∧ w1.cell? ⟨b0, o0 + q * 5 + 3, none⟩ = some (.int .i64 mn1) ∧ w1.cell? ⟨b0, o0 + q * 5 + 4, none⟩ = some (.int .i64 mx1) ∧ w1.cell? ⟨b1, o1 + q * 5, none⟩ = some (.int .i64 k1) ∧ w1.cell? ⟨b1, o1 + q * 5 + 1, none⟩ = some (.string l1) ∧ w1.cell? ⟨b1, o1 + q * 5 + 2, none⟩ = some (.slice KB d1.len cB) ∧ w1.cell? ⟨b1, o1 + q * 5 + 3, none⟩ = some (.int .i64 mn1) ∧ w1.cell? ⟨b1, o1 + q * 5 + 4, none⟩ = some (.int .i64 mx1))))
          clear hsz hat1 hat2 hcel h3 hcelb h4 hdd
          have hW0 : Below wr.heap.size wr wr := Below.refl _ _
          have hW1 : Below wr.heap.size wr wr.drew := (Below.refl _ wr).drew
          go_wp2_with fail
          go_region_held3 (fun w' => (w'.cell? ⟨w.heap.size, 2, none⟩ = some (.slice (some ⟨b0, o0, none⟩) kids.len c) ∧ w'.cell? ⟨w.heap.size + 1, 2, none⟩ = some (.slice (some ⟨b1, o1, none⟩) kids.len c') ∧ w'.cell? ⟨b0, o0 + q * 5, none⟩ = some (.int .i64 k1) ∧ w'.cell? ⟨b0, o0 + q * 5 + 1, none⟩ = some (.string l1) ∧ w'.cell? ⟨b0, o0 + q * 5 + 2, none⟩ = some (.slice KA d1.len cA) ∧ w'.cell? ⟨b0, o0 + q * 5 + 3, none⟩ = some (.int .i64 mn1) ∧ w'.cell? ⟨b0, o0 + q * 5 + 4, none⟩ = some (.int .i64 mx1) ∧ w'.cell? ⟨b1, o1 + q * 5, none⟩ = some (.int .i64 k1) ∧ w'.cell? ⟨b1, o1 + q * 5 + 1, none⟩ = some (.string l1) ∧ w'.cell? ⟨b1, o1 + q * 5 + 2, none⟩ = some (.slice KB d1.len cB) ∧ w'.cell? ⟨b1, o1 + q * 5 + 3, none⟩ = some (.int .i64 mn1) ∧ w'.cell? ⟨b1, o1 + q * 5 + 4, none⟩ = some (.int .i64 mx1))) (exact HS.out _ (by assumption)) (first | (go_at_call 40; (with_reducible refine (HC.out _ hW1).mono ?_); rintro e w2 ⟨rfl, hb2⟩; have hW2 : Below wr.heap.size wr w2 := bt hW1 hb2 hW1.size))
          all_goals
            have HB3 := Lib.hid (HB.out.trans (hW2.mono hws.out))
            go_wp2_with fail
            exact ⟨⟨q + 1, _, r1, hkk, hqq, by go_num, HB3⟩, by simp [RowKit.intOf]; omega⟩
set_option maxRecDepth 100000 in
set_option maxHeartbeats 4000000 in
/-- The document's 'Same', at equal trees. -/
theorem rSame_any (a b : Nd) (X : List Nat) (w : World) (ha : a.ok w X) (hb : b.ok w X) (he : a.fo .nil = b.fo .nil) (hd : dpt (a.fo .nil) ≤ 401) : Calls Tryz.prog 14 #[a.v, b.v] w fun e w' => e = .returned (.bool true) ∧ Below w.heap.size w w' := by
  have HC := Lib.hid (fun (w1 : World) (hb1 : Below w.heap.size w w1) => rsame_n (a.kids.sz + 1) a b X 0 w1 (Nat.lt_succ_self _) (ha.below hb1) (hb.below hb1) he (Int.le_refl _) (by omega))
  have HB := Lib.hid (show Below w.heap.size w ((w.alloc (obj5 a.k a.l a.A a.kids.len a.c a.mn a.mx)).alloc (obj5 b.k b.l b.A b.kids.len b.c b.mn b.mx)) from ((Below.refl _ w).alloc (Nat.le_refl _) _).alloc (by simp) _)
  unfold Nd.v at *
  clear ha hb he hd
  go_enter Tryz.func14, Tryz.ntmps14
  go_wp2_with (go_at_call 40; (with_reducible refine (HC.out _ HB.out).mono ?_); rintro e w2 ⟨rfl, hb2⟩; have HB2 := Lib.hid (bt HB.out hb2 HB.out.size); clear hb2)
  go_ret
  exact ⟨rfl, HB2.out⟩
end Go.Proofs.YtpaehicfndkliaaGreatDoor.De
