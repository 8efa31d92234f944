
/- The walk of 'Same'. Condition: the trees can be read. -/
import Derived.Test.YtpaehicfndkliaaGreatDoorRa
namespace Go.Proofs.YtpaehicfndkliaaGreatDoor.Pa
open Go.RowKit Go.Lib Na Go.PN

theorem list_eq {a b : ByteArray} (h : a.data.toList = b.data.toList) : a = b := by
  rw [← ba_back a, ← ba_back b, h]
theorem toList_beq (a b : ByteArray) : (a.toList == b.toList) = decide (a.data.toList = b.data.toList) := by
  rw [ByteArray.toList_eq, ByteArray.toList_eq]
  by_cases h : a.data.toList = b.data.toList
  · rw [decide_eq_true h, h]; exact beq_self_eq_true _
  · rw [decide_eq_false h, beq_eq_false_iff_ne]; exact h
/-- Are two rows of paths the same? -/
def sameL : Fo → Fo → Bool
  | .nil, .nil => true
  | .cons k l d mn mx r, .cons k' l' d' mn' mx' r' => (decide (k = k') && decide (d.len = d'.len) && (!(k == 2 || k == 3) || decide (l = l')) && (!(k == 9) || (decide (mn = mn') && decide (mx = mx'))) && sameL d d') && sameL r r'
  | _, _ => false
theorem sameL_cons (k : Int) (l : ByteArray) (d : Fo) (mn mx : Int) (r : Fo) (k' : Int) (l' : ByteArray) (d' : Fo) (mn' mx' : Int) (r' : Fo) : sameL (.cons k l d mn mx r) (.cons k' l' d' mn' mx' r') = (sameL (.cons k l d mn mx .nil) (.cons k' l' d' mn' mx' .nil) && sameL r r') := by
  have e : sameL (.cons k l d mn mx .nil) (.cons k' l' d' mn' mx' .nil) = ((decide (k = k') && decide (d.len = d'.len) && (!(k == 2 || k == 3) || decide (l = l')) && (!(k == 9) || (decide (mn = mn') && decide (mx = mx'))) && sameL d d') && true) := rfl
  rw [e, Bool.and_true]
  rfl
theorem sameL_iff (f g : Fo) : sameL f g = true ↔ nrm f = nrm g := by
  induction f generalizing g with
  | nil =>
    cases g with
    | nil => exact ⟨fun _ => rfl, fun _ => rfl⟩
    | cons => exact ⟨fun h => (by cases h), fun h => (by cases h)⟩
  | cons k l d mn mx r ih1 ih2 =>
    cases g with
    | nil => exact ⟨fun h => (by cases h), fun h => (by cases h)⟩
    | cons k' l' d' mn' mx' r' =>
      rw [sameL, nrm, nrm]
      simp only [Bool.and_eq_true, decide_eq_true_eq, Bool.or_eq_true, Bool.not_eq_true', Bool.or_eq_false_iff, beq_eq_false_iff_ne]
      rw [ih1, ih2]
      constructor
      · rintro ⟨⟨⟨⟨⟨rfl, _⟩, h3⟩, h4⟩, h5⟩, h6⟩
        rw [h5, h6]
        congr 1
        · split
          · rename_i h
            rcases h3 with h3 | h3
            · exfalso; omega
            · exact h3
          · rfl
        · split
          · rcases h4 with h4 | h4
            · exfalso; omega
            · exact h4.1
          · rfl
        · split
          · rcases h4 with h4 | h4
            · exfalso; omega
            · exact h4.2
          · rfl
      · intro h
        injection h with h1 h2 h3 h4 h5 h6
        subst h1
        refine ⟨⟨⟨⟨⟨rfl, ?_⟩, ?_⟩, ?_⟩, h3⟩, h6⟩
        · rw [← nrm_len d, ← nrm_len d', h3]
        · by_cases hk : k = 2 ∨ k = 3
          · rw [if_pos hk, if_pos hk] at h2; exact Or.inr h2
          · exact Or.inl (by omega)
        · by_cases hk : k = 9
          · rw [if_pos hk, if_pos hk] at h4 h5; exact Or.inr ⟨h4, h5⟩
          · exact Or.inl hk
theorem box2 {w wr : World} {k k' : Int} {l l' : ByteArray} {A A' : Option Addr} {n n' c c' : Nat} {mn mx mn' mx' : Int}
    (hb : Below (w.heap.size + 1 + 1) ((w.alloc (cells5 k l A n c mn mx)).alloc (cells5 k' l' A' n' c' mn' mx')) wr) :
    wr.cell? ⟨w.heap.size, 2, none⟩ = some (.slice A n c) ∧ wr.cell? ⟨w.heap.size + 1, 2, none⟩ = some (.slice A' n' c') ∧ True := by
  refine ⟨(hb.cell (p := ⟨w.heap.size, 2, none⟩) (show w.heap.size < w.heap.size + 1 + 1 by omega)).trans (by go_simp), (hb.cell (p := ⟨w.heap.size + 1, 2, none⟩) (show w.heap.size + 1 < w.heap.size + 1 + 1 by omega)).trans (by go_simp), trivial⟩
set_option maxRecDepth 100000 in
set_option maxHeartbeats 32000000 in
theorem same_n (n : Nat) : ∀ (a b : Nd) (X : List Nat) (w : World), a.kids.sz < n → a.ok w X → b.ok w X →
    Calls Tryz.prog 26 #[a.v, b.v] w fun e w' => e = .returned (.bool (sameL (a.fo .nil) (b.fo .nil))) ∧ Below w.heap.size w w' := by
  induction n with
  | zero => intro a b X w hn; omega
  | succ n ih =>
    intro a b X w hn hok hok'
    obtain ⟨k, l, A, c, mn, mx, kids⟩ := a
    obtain ⟨k', l', A', c', mn', mx', kids'⟩ := b
    obtain ⟨hc, hc2, hat⟩ := hok
    obtain ⟨hc', hc2', hat'⟩ := hok'
    unfold Nd.v Nd.fo
    simp only at hn hc hc2 hat hc' hc2' hat' ⊢
    have hE0 : sameL (.cons k l kids mn mx .nil) (.cons k' l' kids' mn' mx' .nil) = (decide (k = k') && decide (kids.len = kids'.len) && (!(k == 2 || k == 3) || decide (l = l')) && (!(k == 9) || (decide (mn = mn') && decide (mx = mx'))) && sameL kids kids') := by
      show (_ && true) = _
      rw [Bool.and_true]
    have HWW := Lib.hid (show Below w.heap.size w ((w.alloc (cells5 k l A kids.len c mn mx)).alloc (cells5 k' l' A' kids'.len c' mn' mx')) from ((Below.refl _ _).alloc (Nat.le_refl _) _).alloc (by simp) _)
    have HN := Lib.hid hn
    have HA := Lib.hid hat
    have HA' := Lib.hid hat'
    have IH := Lib.hid ih
    clear hat hat' hn ih
    by_cases hk : k = k'
    rotate_left
    · have tk : (k == k') = false := by rw [beq_eq_false_iff_ne]; exact hk
      have HE := Lib.hid (show sameL (.cons k l kids mn mx .nil) (.cons k' l' kids' mn' mx' .nil) = false by rw [hE0, decide_eq_false hk]; rfl)
      clear hE0 hk
      go_enter Tryz.func26, Tryz.ntmps26
      go_wp2_with fail
      go_ret
      exact ⟨by rw [HE.out]; rfl, HWW.out⟩
    subst hk
    by_cases hl : kids.len = kids'.len
    rotate_left
    · have tk : (kids.len == kids'.len) = false := by rw [beq_eq_false_iff_ne]; exact hl
      have tk2 : ((kids.len : Int) == (kids'.len : Int)) = false := by rw [beq_eq_false_iff_ne]; omega
      have HE := Lib.hid (show sameL (.cons k l kids mn mx .nil) (.cons k l' kids' mn' mx' .nil) = false by rw [hE0, decide_eq_false hl]; simp)
      clear hE0 hl
      go_enter Tryz.func26, Tryz.ntmps26
      go_wp2_with fail
      go_ret
      exact ⟨by rw [HE.out]; rfl, HWW.out⟩
    have HLL := Lib.hid hl
    have tl : (kids.len == kids'.len) = true := by rw [beq_iff_eq]; exact hl
    have tl2 : ((kids.len : Int) == (kids'.len : Int)) = true := by rw [beq_iff_eq]; omega
    have tl3 : ((kids.len : Int) != (kids'.len : Int)) = false := by rw [bne, tl2]; rfl
    have tl4 : (kids.len != kids'.len) = false := by rw [bne, tl]; rfl
    rw [decide_eq_true hl, decide_eq_true rfl] at hE0
    clear hl
    by_cases hk2 : k = 2
    · subst hk2
      by_cases hll : l = l'
      · have HE := Lib.hid (show sameL (.cons 2 l kids mn mx .nil) (.cons 2 l' kids' mn' mx' .nil) = sameL kids kids' by rw [hE0, decide_eq_true hll]; rfl)
        have tt : (l.toList == l'.toList) = true := by rw [hll]; exact beq_self_eq_true _
        clear hE0 hll
        go_enter Tryz.func26, Tryz.ntmps26
        go_wp2_with fail
        go_loopw [48] (fun iv wr => ∃ (q : Nat) (dn r dn' r' : Fo), Hid (kids = dn.app r) ∧ Hid (dn.len = q) ∧ Hid (kids' = dn'.app r') ∧ Hid (dn'.len = q) ∧ iv = .int .i64 q ∧ Hid (sameL r r' = sameL kids kids') ∧ Hid (Below (w.heap.size + 1 + 1) ((w.alloc (cells5 2 l A kids.len c mn mx)).alloc (cells5 2 l' A' kids'.len c' mn' mx')) wr)) (fun iv _ => kids.len - (RowKit.intOf iv).toNat)
        case atStart => exact ⟨0, .nil, kids, .nil, kids', Lib.hid rfl, Lib.hid rfl, Lib.hid rfl, Lib.hid rfl, rfl, Lib.hid rfl, Lib.hid (Below.refl _ _)⟩
        case round =>
          obtain ⟨q, dn, r, dn', r', hk, hq, hk', hq', rfl, hlp, HB⟩ := hrel
          have hlen := Lib.hid (show kids.len = q + r.len by rw [hk.out, Fo.app_len, hq.out])
          have hlen' := Lib.hid (show kids'.len = q + r'.len by rw [hk'.out, Fo.app_len, hq'.out])
          have HB1 := Lib.hid (HWW.out.trans (HB.out.mono (by omega)))
          have hbx := (box2 HB.out).2.1
          cases r with
          | nil =>
            have hlt : ¬ (q : Int) < kids.len := by have := hlen.out; simp only [Fo.len] at this; omega
            have hlt2 : decide (q < kids.len) = false := decide_eq_false (by omega)
            have hr' : r' = .nil := by
              apply nil_len
              have := hlen.out; have := hlen'.out; have := HLL.out; simp only [Fo.len] at *; omega
            have hE := Lib.hid (show sameL kids kids' = true by rw [← hlp.out, hr']; rfl)
            clear hr'
            go_wp2_with fail
            go_ret
            exact ⟨by rw [HE.out, hE.out]; rfl, HB1.out⟩
          | cons k1 l1 d1 mn1 mx1 r1 =>
            have hlt : (q : Int) < kids.len := by have := hlen.out; simp only [Fo.len] at this; omega
            have hlt2 : decide (q < kids.len) = true := decide_eq_true (by omega)
            have hltb : (q : Int) < kids'.len := by have := HLL.out; omega
            have hq0 : (0 : Int) ≤ q := by omega
            cases r' with
            | nil => exfalso; have := hlen.out; have := hlen'.out; have := HLL.out; simp only [Fo.len] at *; omega
            | cons k2 l2 d2 mn2 mx2 r2 =>
              obtain ⟨b0, o0, hA0⟩ := Nd.first (a := ⟨0, ByteArray.empty, A, c, 0, 0, kids⟩) HA.out hk.out
              obtain ⟨b1, o1, hA1⟩ := Nd.first (a := ⟨0, ByteArray.empty, A', c', 0, 0, kids'⟩) HA'.out hk'.out
              simp only at hA0 hA1
              subst hA0 hA1
              have h3 := HA.out.below HB1.out
              rw [hk.out] at h3
              obtain ⟨KA, cA, hcel, hc3, hc4, hat1⟩ := h3.nth hq.out
              have h4 := HA'.out.below HB1.out
              rw [hk'.out] at h4
              obtain ⟨KB, cB, hcelb, hd3, hd4, hat2⟩ := h4.nth hq'.out
              have hcel1 := hcel.1
              have hcel2 := hcel.2.1
              have hcel3 := hcel.2.2.1
              have hcel4 := hcel.2.2.2.1
              have hcel5 := hcel.2.2.2.2
              have HCB := Lib.hid hcelb
              have hsz : d1.sz < n := by
                have h5 := congrArg Fo.sz hk.out
                rw [Fo.app_sz] at h5
                have h6 := HN.out
                simp only [Fo.sz] at h5
                omega
              have HC := Lib.hid (fun (w1 : World) (hb1 : Below wr.heap.size wr w1) => IH.out ⟨k1, l1, KA, cA, mn1, mx1, d1⟩ ⟨k2, l2, KB, cB, mn2, mx2, d2⟩ X w1 hsz ⟨hc3, hc4, hat1.below hb1⟩ ⟨hd3, hd4, hat2.below hb1⟩)
              unfold Nd.v Nd.fo at HC
              simp only at HC
              have hl1 := Lib.hid (show sameL kids kids' = (sameL (.cons k1 l1 d1 mn1 mx1 .nil) (.cons k2 l2 d2 mn2 mx2 .nil) && sameL r1 r2) by rw [← hlp.out]; exact sameL_cons _ _ _ _ _ _ _ _ _ _ _ _)
              have hkk := Lib.hid (show kids = (dn.app (.cons k1 l1 d1 mn1 mx1 .nil)).app r1 by rw [hk.out, Fo.app_assoc]; rfl)
              have hqq := Lib.hid (show (dn.app (.cons k1 l1 d1 mn1 mx1 .nil)).len = q + 1 by rw [Fo.app_len, hq.out]; rfl)
              have hkk' := Lib.hid (show kids' = (dn'.app (.cons k2 l2 d2 mn2 mx2 .nil)).app r2 by rw [hk'.out, Fo.app_assoc]; rfl)
              have hqq' := Lib.hid (show (dn'.app (.cons k2 l2 d2 mn2 mx2 .nil)).len = q + 1 by rw [Fo.app_len, hq'.out]; rfl)
              have hws := Lib.hid (show w.heap.size + 1 + 1 ≤ wr.heap.size by have := HB.out.size; simpa using this)
              have HXK := Lib.hid (Bx.new wr (.int .i64 k1) (.string l1) (.slice KA d1.len cA) (.int .i64 mn1) (.int .i64 mx1) 24)
              have HBK := Lib.hid ((Below.refl wr.heap.size wr).alloc (Nat.le_refl _) (cells5 k1 l1 KA d1.len cA mn1 mx1))
              have HS := Lib.hid (fun (w1 : World) (hb : Below (wr.alloc (cells5 k1 l1 KA d1.len cA mn1 mx1)).heap.size (wr.alloc (cells5 k1 l1 KA d1.len cA mn1 mx1)) w1) => (⟨(HXK.out.below hb).c0, (HXK.out.below hb).c1, (HXK.out.below hb).c2, (HXK.out.below hb).c3, (HXK.out.below hb).c4, ((HBK.out.trans (hb.mono HBK.out.size)).cell (cell_lt hbx)).trans hbx, ((HBK.out.trans (hb.mono HBK.out.size)).cell (cell_lt HCB.out.1)).trans HCB.out.1, ((HBK.out.trans (hb.mono HBK.out.size)).cell (cell_lt HCB.out.2.1)).trans HCB.out.2.1, ((HBK.out.trans (hb.mono HBK.out.size)).cell (cell_lt HCB.out.2.2.1)).trans HCB.out.2.2.1, ((HBK.out.trans (hb.mono HBK.out.size)).cell (cell_lt HCB.out.2.2.2.1)).trans HCB.out.2.2.2.1, ((HBK.out.trans (hb.mono HBK.out.size)).cell (cell_lt HCB.out.2.2.2.2)).trans HCB.out.2.2.2.2⟩ :
                (w1.cell? ⟨wr.heap.size, 0, none⟩ = some (.int .i64 k1) ∧ w1.cell? ⟨wr.heap.size, 1, none⟩ = some (.string l1) ∧ w1.cell? ⟨wr.heap.size, 2, none⟩ = some (.slice KA d1.len cA) ∧ w1.cell? ⟨wr.heap.size, 3, none⟩ = some (.int .i64 mn1) ∧ w1.cell? ⟨wr.heap.size, 4, none⟩ = some (.int .i64 mx1) ∧ w1.cell? ⟨w.heap.size + 1, 2, none⟩ = some (.slice (some ⟨b1, o1, none⟩) kids'.len c') ∧ w1.cell? ⟨b1, o1 + q * 5, none⟩ = some (.int .i64 k2) ∧ w1.cell? ⟨b1, o1 + q * 5 + 1, none⟩ = some (.string l2) ∧ w1.cell? ⟨b1, o1 + q * 5 + 2, none⟩ = some (.slice KB d2.len cB) ∧ w1.cell? ⟨b1, o1 + q * 5 + 3, none⟩ = some (.int .i64 mn2) ∧ w1.cell? ⟨b1, o1 + q * 5 + 4, none⟩ = some (.int .i64 mx2))))
              clear hsz hat1 hat2 hcel h3 hcelb h4 hbx
              generalize sameL (.cons k1 l1 d1 mn1 mx1 .nil) (.cons k2 l2 d2 mn2 mx2 .nil) = z at *
              go_wp2_with fail
              have FI := HS.out _ (Below.refl _ _)
              go_region_held3 (fun w' => (w'.cell? ⟨wr.heap.size, 0, none⟩ = some (.int .i64 k1) ∧ w'.cell? ⟨wr.heap.size, 1, none⟩ = some (.string l1) ∧ w'.cell? ⟨wr.heap.size, 2, none⟩ = some (.slice KA d1.len cA) ∧ w'.cell? ⟨wr.heap.size, 3, none⟩ = some (.int .i64 mn1) ∧ w'.cell? ⟨wr.heap.size, 4, none⟩ = some (.int .i64 mx1) ∧ w'.cell? ⟨w.heap.size + 1, 2, none⟩ = some (.slice (some ⟨b1, o1, none⟩) kids'.len c') ∧ w'.cell? ⟨b1, o1 + q * 5, none⟩ = some (.int .i64 k2) ∧ w'.cell? ⟨b1, o1 + q * 5 + 1, none⟩ = some (.string l2) ∧ w'.cell? ⟨b1, o1 + q * 5 + 2, none⟩ = some (.slice KB d2.len cB) ∧ w'.cell? ⟨b1, o1 + q * 5 + 3, none⟩ = some (.int .i64 mn2) ∧ w'.cell? ⟨b1, o1 + q * 5 + 4, none⟩ = some (.int .i64 mx2))) (first | exact FI | exact F1.out) (first | (go_at_call 26; (with_reducible refine (HC.out _ HBK.out.drew).mono ?_); rintro e w2 ⟨rfl, hb2⟩; have HB2 := Lib.hid ((Below.refl (wr.alloc (cells5 k1 l1 KA d1.len cA mn1 mx1)).heap.size (wr.alloc (cells5 k1 l1 KA d1.len cA mn1 mx1))).drew.trans (hb2.mono (Below.refl (wr.alloc (cells5 k1 l1 KA d1.len cA mn1 mx1)).heap.size (wr.alloc (cells5 k1 l1 KA d1.len cA mn1 mx1))).drew.size)); have F1 := Lib.hid (HS.out w2 HB2.out); clear hb2))
              all_goals
                have HB3 := Lib.hid (HB.out.trans ((HBK.out.trans (HB2.out.mono HBK.out.size)).mono hws.out))
                cases z
                · have hE := Lib.hid (show sameL kids kids' = false from hl1.out)
                  go_wp2_with fail
                  go_ret
                  exact ⟨by rw [HE.out, hE.out]; rfl, HWW.out.trans (HB3.out.mono (by omega))⟩
                · have hE := Lib.hid (show sameL r1 r2 = sameL kids kids' from hl1.out.symm)
                  go_wp2_with fail
                  exact ⟨⟨q + 1, _, r1, _, r2, hkk, hqq, hkk', hqq', by go_num, hE, HB3⟩, by simp [RowKit.intOf]; omega⟩
      · have HE := Lib.hid (show sameL (.cons 2 l kids mn mx .nil) (.cons 2 l' kids' mn' mx' .nil) = false by rw [hE0, decide_eq_false hll]; rfl)
        have tt : (l.toList == l'.toList) = false := by rw [toList_beq]; exact decide_eq_false (fun e => hll (list_eq e))
        clear hE0 hll
        go_enter Tryz.func26, Tryz.ntmps26
        go_wp2_with fail
        go_ret
        exact ⟨by rw [HE.out]; rfl, HWW.out⟩
    have t2 : (k == 2) = false := by rw [beq_eq_false_iff_ne]; exact hk2
    by_cases hk3 : k = 3
    · subst hk3
      by_cases hll : l = l'
      · have HE := Lib.hid (show sameL (.cons 3 l kids mn mx .nil) (.cons 3 l' kids' mn' mx' .nil) = sameL kids kids' by rw [hE0, decide_eq_true hll]; rfl)
        have tt : (l.toList == l'.toList) = true := by rw [hll]; exact beq_self_eq_true _
        clear hE0 hll
        go_enter Tryz.func26, Tryz.ntmps26
        go_wp2_with fail
        go_loopw [48] (fun iv wr => ∃ (q : Nat) (dn r dn' r' : Fo), Hid (kids = dn.app r) ∧ Hid (dn.len = q) ∧ Hid (kids' = dn'.app r') ∧ Hid (dn'.len = q) ∧ iv = .int .i64 q ∧ Hid (sameL r r' = sameL kids kids') ∧ Hid (Below (w.heap.size + 1 + 1) ((w.alloc (cells5 3 l A kids.len c mn mx)).alloc (cells5 3 l' A' kids'.len c' mn' mx')) wr)) (fun iv _ => kids.len - (RowKit.intOf iv).toNat)
        case atStart => exact ⟨0, .nil, kids, .nil, kids', Lib.hid rfl, Lib.hid rfl, Lib.hid rfl, Lib.hid rfl, rfl, Lib.hid rfl, Lib.hid (Below.refl _ _)⟩
        case round =>
          obtain ⟨q, dn, r, dn', r', hk, hq, hk', hq', rfl, hlp, HB⟩ := hrel
          have hlen := Lib.hid (show kids.len = q + r.len by rw [hk.out, Fo.app_len, hq.out])
          have hlen' := Lib.hid (show kids'.len = q + r'.len by rw [hk'.out, Fo.app_len, hq'.out])
          have HB1 := Lib.hid (HWW.out.trans (HB.out.mono (by omega)))
          have hbx := (box2 HB.out).2.1
          cases r with
          | nil =>
            have hlt : ¬ (q : Int) < kids.len := by have := hlen.out; simp only [Fo.len] at this; omega
            have hlt2 : decide (q < kids.len) = false := decide_eq_false (by omega)
            have hr' : r' = .nil := by
              apply nil_len
              have := hlen.out; have := hlen'.out; have := HLL.out; simp only [Fo.len] at *; omega
            have hE := Lib.hid (show sameL kids kids' = true by rw [← hlp.out, hr']; rfl)
            clear hr'
            go_wp2_with fail
            go_ret
            exact ⟨by rw [HE.out, hE.out]; rfl, HB1.out⟩
          | cons k1 l1 d1 mn1 mx1 r1 =>
            have hlt : (q : Int) < kids.len := by have := hlen.out; simp only [Fo.len] at this; omega
            have hlt2 : decide (q < kids.len) = true := decide_eq_true (by omega)
            have hltb : (q : Int) < kids'.len := by have := HLL.out; omega
            have hq0 : (0 : Int) ≤ q := by omega
            cases r' with
            | nil => exfalso; have := hlen.out; have := hlen'.out; have := HLL.out; simp only [Fo.len] at *; omega
            | cons k2 l2 d2 mn2 mx2 r2 =>
              obtain ⟨b0, o0, hA0⟩ := Nd.first (a := ⟨0, ByteArray.empty, A, c, 0, 0, kids⟩) HA.out hk.out
              obtain ⟨b1, o1, hA1⟩ := Nd.first (a := ⟨0, ByteArray.empty, A', c', 0, 0, kids'⟩) HA'.out hk'.out
              simp only at hA0 hA1
              subst hA0 hA1
              have h3 := HA.out.below HB1.out
              rw [hk.out] at h3
              obtain ⟨KA, cA, hcel, hc3, hc4, hat1⟩ := h3.nth hq.out
              have h4 := HA'.out.below HB1.out
              rw [hk'.out] at h4
              obtain ⟨KB, cB, hcelb, hd3, hd4, hat2⟩ := h4.nth hq'.out
              have hcel1 := hcel.1
              have hcel2 := hcel.2.1
              have hcel3 := hcel.2.2.1
              have hcel4 := hcel.2.2.2.1
              have hcel5 := hcel.2.2.2.2
              have HCB := Lib.hid hcelb
              have hsz : d1.sz < n := by
                have h5 := congrArg Fo.sz hk.out
                rw [Fo.app_sz] at h5
                have h6 := HN.out
                simp only [Fo.sz] at h5
                omega
              have HC := Lib.hid (fun (w1 : World) (hb1 : Below wr.heap.size wr w1) => IH.out ⟨k1, l1, KA, cA, mn1, mx1, d1⟩ ⟨k2, l2, KB, cB, mn2, mx2, d2⟩ X w1 hsz ⟨hc3, hc4, hat1.below hb1⟩ ⟨hd3, hd4, hat2.below hb1⟩)
              unfold Nd.v Nd.fo at HC
              simp only at HC
              have hl1 := Lib.hid (show sameL kids kids' = (sameL (.cons k1 l1 d1 mn1 mx1 .nil) (.cons k2 l2 d2 mn2 mx2 .nil) && sameL r1 r2) by rw [← hlp.out]; exact sameL_cons _ _ _ _ _ _ _ _ _ _ _ _)
              have hkk := Lib.hid (show kids = (dn.app (.cons k1 l1 d1 mn1 mx1 .nil)).app r1 by rw [hk.out, Fo.app_assoc]; rfl)
              have hqq := Lib.hid (show (dn.app (.cons k1 l1 d1 mn1 mx1 .nil)).len = q + 1 by rw [Fo.app_len, hq.out]; rfl)
              have hkk' := Lib.hid (show kids' = (dn'.app (.cons k2 l2 d2 mn2 mx2 .nil)).app r2 by rw [hk'.out, Fo.app_assoc]; rfl)
              have hqq' := Lib.hid (show (dn'.app (.cons k2 l2 d2 mn2 mx2 .nil)).len = q + 1 by rw [Fo.app_len, hq'.out]; rfl)
              have hws := Lib.hid (show w.heap.size + 1 + 1 ≤ wr.heap.size by have := HB.out.size; simpa using this)
              have HXK := Lib.hid (Bx.new wr (.int .i64 k1) (.string l1) (.slice KA d1.len cA) (.int .i64 mn1) (.int .i64 mx1) 24)
              have HBK := Lib.hid ((Below.refl wr.heap.size wr).alloc (Nat.le_refl _) (cells5 k1 l1 KA d1.len cA mn1 mx1))
              have HS := Lib.hid (fun (w1 : World) (hb : Below (wr.alloc (cells5 k1 l1 KA d1.len cA mn1 mx1)).heap.size (wr.alloc (cells5 k1 l1 KA d1.len cA mn1 mx1)) w1) => (⟨(HXK.out.below hb).c0, (HXK.out.below hb).c1, (HXK.out.below hb).c2, (HXK.out.below hb).c3, (HXK.out.below hb).c4, ((HBK.out.trans (hb.mono HBK.out.size)).cell (cell_lt hbx)).trans hbx, ((HBK.out.trans (hb.mono HBK.out.size)).cell (cell_lt HCB.out.1)).trans HCB.out.1, ((HBK.out.trans (hb.mono HBK.out.size)).cell (cell_lt HCB.out.2.1)).trans HCB.out.2.1, ((HBK.out.trans (hb.mono HBK.out.size)).cell (cell_lt HCB.out.2.2.1)).trans HCB.out.2.2.1, ((HBK.out.trans (hb.mono HBK.out.size)).cell (cell_lt HCB.out.2.2.2.1)).trans HCB.out.2.2.2.1, ((HBK.out.trans (hb.mono HBK.out.size)).cell (cell_lt HCB.out.2.2.2.2)).trans HCB.out.2.2.2.2⟩ :
                (w1.cell? ⟨wr.heap.size, 0, none⟩ = some (.int .i64 k1) ∧ w1.cell? ⟨wr.heap.size, 1, none⟩ = some (.string l1) ∧ w1.cell? ⟨wr.heap.size, 2, none⟩ = some (.slice KA d1.len cA) ∧ w1.cell? ⟨wr.heap.size, 3, none⟩ = some (.int .i64 mn1) ∧ w1.cell? ⟨wr.heap.size, 4, none⟩ = some (.int .i64 mx1) ∧ w1.cell? ⟨w.heap.size + 1, 2, none⟩ = some (.slice (some ⟨b1, o1, none⟩) kids'.len c') ∧ w1.cell? ⟨b1, o1 + q * 5, none⟩ = some (.int .i64 k2) ∧ w1.cell? ⟨b1, o1 + q * 5 + 1, none⟩ = some (.string l2) ∧ w1.cell? ⟨b1, o1 + q * 5 + 2, none⟩ = some (.slice KB d2.len cB) ∧ w1.cell? ⟨b1, o1 + q * 5 + 3, none⟩ = some (.int .i64 mn2) ∧ w1.cell? ⟨b1, o1 + q * 5 + 4, none⟩ = some (.int .i64 mx2))))
              clear hsz hat1 hat2 hcel h3 hcelb h4 hbx
              generalize sameL (.cons k1 l1 d1 mn1 mx1 .nil) (.cons k2 l2 d2 mn2 mx2 .nil) = z at *
              go_wp2_with fail
              have FI := HS.out _ (Below.refl _ _)
              go_region_held3 (fun w' => (w'.cell? ⟨wr.heap.size, 0, none⟩ = some (.int .i64 k1) ∧ w'.cell? ⟨wr.heap.size, 1, none⟩ = some (.string l1) ∧ w'.cell? ⟨wr.heap.size, 2, none⟩ = some (.slice KA d1.len cA) ∧ w'.cell? ⟨wr.heap.size, 3, none⟩ = some (.int .i64 mn1) ∧ w'.cell? ⟨wr.heap.size, 4, none⟩ = some (.int .i64 mx1) ∧ w'.cell? ⟨w.heap.size + 1, 2, none⟩ = some (.slice (some ⟨b1, o1, none⟩) kids'.len c') ∧ w'.cell? ⟨b1, o1 + q * 5, none⟩ = some (.int .i64 k2) ∧ w'.cell? ⟨b1, o1 + q * 5 + 1, none⟩ = some (.string l2) ∧ w'.cell? ⟨b1, o1 + q * 5 + 2, none⟩ = some (.slice KB d2.len cB) ∧ w'.cell? ⟨b1, o1 + q * 5 + 3, none⟩ = some (.int .i64 mn2) ∧ w'.cell? ⟨b1, o1 + q * 5 + 4, none⟩ = some (.int .i64 mx2))) (first | exact FI | exact F1.out) (first | (go_at_call 26; (with_reducible refine (HC.out _ HBK.out.drew).mono ?_); rintro e w2 ⟨rfl, hb2⟩; have HB2 := Lib.hid ((Below.refl (wr.alloc (cells5 k1 l1 KA d1.len cA mn1 mx1)).heap.size (wr.alloc (cells5 k1 l1 KA d1.len cA mn1 mx1))).drew.trans (hb2.mono (Below.refl (wr.alloc (cells5 k1 l1 KA d1.len cA mn1 mx1)).heap.size (wr.alloc (cells5 k1 l1 KA d1.len cA mn1 mx1))).drew.size)); have F1 := Lib.hid (HS.out w2 HB2.out); clear hb2))
              all_goals
                have HB3 := Lib.hid (HB.out.trans ((HBK.out.trans (HB2.out.mono HBK.out.size)).mono hws.out))
                cases z
                · have hE := Lib.hid (show sameL kids kids' = false from hl1.out)
                  go_wp2_with fail
                  go_ret
                  exact ⟨by rw [HE.out, hE.out]; rfl, HWW.out.trans (HB3.out.mono (by omega))⟩
                · have hE := Lib.hid (show sameL r1 r2 = sameL kids kids' from hl1.out.symm)
                  go_wp2_with fail
                  exact ⟨⟨q + 1, _, r1, _, r2, hkk, hqq, hkk', hqq', by go_num, hE, HB3⟩, by simp [RowKit.intOf]; omega⟩
      · have HE := Lib.hid (show sameL (.cons 3 l kids mn mx .nil) (.cons 3 l' kids' mn' mx' .nil) = false by rw [hE0, decide_eq_false hll]; rfl)
        have tt : (l.toList == l'.toList) = false := by rw [toList_beq]; exact decide_eq_false (fun e => hll (list_eq e))
        clear hE0 hll
        go_enter Tryz.func26, Tryz.ntmps26
        go_wp2_with fail
        go_ret
        exact ⟨by rw [HE.out]; rfl, HWW.out⟩
    have t3 : (k == 3) = false := by rw [beq_eq_false_iff_ne]; exact hk3
    rw [t2, t3] at hE0
    by_cases hk9 : k = 9
    · subst hk9
      by_cases hmn : mn = mn'
      rotate_left
      · have HE := Lib.hid (show sameL (.cons 9 l kids mn mx .nil) (.cons 9 l' kids' mn' mx' .nil) = false by rw [hE0, decide_eq_false hmn]; rfl)
        have tt : (mn == mn') = false := by rw [beq_eq_false_iff_ne]; exact hmn
        clear hE0 hmn t2 t3 hk2 hk3
        go_enter Tryz.func26, Tryz.ntmps26
        go_wp2_with fail
        go_ret
        exact ⟨by rw [HE.out]; rfl, HWW.out⟩
      subst hmn
      by_cases hmx : mx = mx'
      rotate_left
      · have HE := Lib.hid (show sameL (.cons 9 l kids mn mx .nil) (.cons 9 l' kids' mn mx' .nil) = false by rw [hE0, decide_eq_false hmx]; simp)
        have tt : (mx == mx') = false := by rw [beq_eq_false_iff_ne]; exact hmx
        clear hE0 hmx t2 t3 hk2 hk3
        go_enter Tryz.func26, Tryz.ntmps26
        go_wp2_with fail
        go_ret
        exact ⟨by rw [HE.out]; rfl, HWW.out⟩
      subst hmx
      have HE := Lib.hid (show sameL (.cons 9 l kids mn mx .nil) (.cons 9 l' kids' mn mx .nil) = sameL kids kids' by rw [hE0]; simp)
      clear hE0 t2 t3 hk2 hk3
      go_enter Tryz.func26, Tryz.ntmps26
      go_wp2_with fail
      go_loopw [48] (fun iv wr => ∃ (q : Nat) (dn r dn' r' : Fo), Hid (kids = dn.app r) ∧ Hid (dn.len = q) ∧ Hid (kids' = dn'.app r') ∧ Hid (dn'.len = q) ∧ iv = .int .i64 q ∧ Hid (sameL r r' = sameL kids kids') ∧ Hid (Below (w.heap.size + 1 + 1) ((w.alloc (cells5 9 l A kids.len c mn mx)).alloc (cells5 9 l' A' kids'.len c' mn mx)) wr)) (fun iv _ => kids.len - (RowKit.intOf iv).toNat)
      case atStart => exact ⟨0, .nil, kids, .nil, kids', Lib.hid rfl, Lib.hid rfl, Lib.hid rfl, Lib.hid rfl, rfl, Lib.hid rfl, Lib.hid (Below.refl _ _)⟩
      case round =>
        obtain ⟨q, dn, r, dn', r', hk, hq, hk', hq', rfl, hlp, HB⟩ := hrel
        have hlen := Lib.hid (show kids.len = q + r.len by rw [hk.out, Fo.app_len, hq.out])
        have hlen' := Lib.hid (show kids'.len = q + r'.len by rw [hk'.out, Fo.app_len, hq'.out])
        have HB1 := Lib.hid (HWW.out.trans (HB.out.mono (by omega)))
        have hbx := (box2 HB.out).2.1
        cases r with
        | nil =>
          have hlt : ¬ (q : Int) < kids.len := by have := hlen.out; simp only [Fo.len] at this; omega
          have hlt2 : decide (q < kids.len) = false := decide_eq_false (by omega)
          have hr' : r' = .nil := by
            apply nil_len
            have := hlen.out; have := hlen'.out; have := HLL.out; simp only [Fo.len] at *; omega
          have hE := Lib.hid (show sameL kids kids' = true by rw [← hlp.out, hr']; rfl)
          clear hr'
          go_wp2_with fail
          go_ret
          exact ⟨by rw [HE.out, hE.out]; rfl, HB1.out⟩
        | cons k1 l1 d1 mn1 mx1 r1 =>
          have hlt : (q : Int) < kids.len := by have := hlen.out; simp only [Fo.len] at this; omega
          have hlt2 : decide (q < kids.len) = true := decide_eq_true (by omega)
          have hltb : (q : Int) < kids'.len := by have := HLL.out; omega
          have hq0 : (0 : Int) ≤ q := by omega
          cases r' with
          | nil => exfalso; have := hlen.out; have := hlen'.out; have := HLL.out; simp only [Fo.len] at *; omega
          | cons k2 l2 d2 mn2 mx2 r2 =>
            obtain ⟨b0, o0, hA0⟩ := Nd.first (a := ⟨0, ByteArray.empty, A, c, 0, 0, kids⟩) HA.out hk.out
            obtain ⟨b1, o1, hA1⟩ := Nd.first (a := ⟨0, ByteArray.empty, A', c', 0, 0, kids'⟩) HA'.out hk'.out
            simp only at hA0 hA1
            subst hA0 hA1
            have h3 := HA.out.below HB1.out
            rw [hk.out] at h3
            obtain ⟨KA, cA, hcel, hc3, hc4, hat1⟩ := h3.nth hq.out
            have h4 := HA'.out.below HB1.out
            rw [hk'.out] at h4
            obtain ⟨KB, cB, hcelb, hd3, hd4, hat2⟩ := h4.nth hq'.out
            have hcel1 := hcel.1
            have hcel2 := hcel.2.1
            have hcel3 := hcel.2.2.1
            have hcel4 := hcel.2.2.2.1
            have hcel5 := hcel.2.2.2.2
            have HCB := Lib.hid hcelb
            have hsz : d1.sz < n := by
              have h5 := congrArg Fo.sz hk.out
              rw [Fo.app_sz] at h5
              have h6 := HN.out
              simp only [Fo.sz] at h5
              omega
            have HC := Lib.hid (fun (w1 : World) (hb1 : Below wr.heap.size wr w1) => IH.out ⟨k1, l1, KA, cA, mn1, mx1, d1⟩ ⟨k2, l2, KB, cB, mn2, mx2, d2⟩ X w1 hsz ⟨hc3, hc4, hat1.below hb1⟩ ⟨hd3, hd4, hat2.below hb1⟩)
            unfold Nd.v Nd.fo at HC
            simp only at HC
            have hl1 := Lib.hid (show sameL kids kids' = (sameL (.cons k1 l1 d1 mn1 mx1 .nil) (.cons k2 l2 d2 mn2 mx2 .nil) && sameL r1 r2) by rw [← hlp.out]; exact sameL_cons _ _ _ _ _ _ _ _ _ _ _ _)
            have hkk := Lib.hid (show kids = (dn.app (.cons k1 l1 d1 mn1 mx1 .nil)).app r1 by rw [hk.out, Fo.app_assoc]; rfl)
            have hqq := Lib.hid (show (dn.app (.cons k1 l1 d1 mn1 mx1 .nil)).len = q + 1 by rw [Fo.app_len, hq.out]; rfl)
            have hkk' := Lib.hid (show kids' = (dn'.app (.cons k2 l2 d2 mn2 mx2 .nil)).app r2 by rw [hk'.out, Fo.app_assoc]; rfl)
            have hqq' := Lib.hid (show (dn'.app (.cons k2 l2 d2 mn2 mx2 .nil)).len = q + 1 by rw [Fo.app_len, hq'.out]; rfl)
            have hws := Lib.hid (show w.heap.size + 1 + 1 ≤ wr.heap.size by have := HB.out.size; simpa using this)
            have HXK := Lib.hid (Bx.new wr (.int .i64 k1) (.string l1) (.slice KA d1.len cA) (.int .i64 mn1) (.int .i64 mx1) 24)
            have HBK := Lib.hid ((Below.refl wr.heap.size wr).alloc (Nat.le_refl _) (cells5 k1 l1 KA d1.len cA mn1 mx1))
            have HS := Lib.hid (fun (w1 : World) (hb : Below (wr.alloc (cells5 k1 l1 KA d1.len cA mn1 mx1)).heap.size (wr.alloc (cells5 k1 l1 KA d1.len cA mn1 mx1)) w1) => (⟨(HXK.out.below hb).c0, (HXK.out.below hb).c1, (HXK.out.below hb).c2, (HXK.out.below hb).c3, (HXK.out.below hb).c4, ((HBK.out.trans (hb.mono HBK.out.size)).cell (cell_lt hbx)).trans hbx, ((HBK.out.trans (hb.mono HBK.out.size)).cell (cell_lt HCB.out.1)).trans HCB.out.1, ((HBK.out.trans (hb.mono HBK.out.size)).cell (cell_lt HCB.out.2.1)).trans HCB.out.2.1, ((HBK.out.trans (hb.mono HBK.out.size)).cell (cell_lt HCB.out.2.2.1)).trans HCB.out.2.2.1, ((HBK.out.trans (hb.mono HBK.out.size)).cell (cell_lt HCB.out.2.2.2.1)).trans HCB.out.2.2.2.1, ((HBK.out.trans (hb.mono HBK.out.size)).cell (cell_lt HCB.out.2.2.2.2)).trans HCB.out.2.2.2.2⟩ :
              (w1.cell? ⟨wr.heap.size, 0, none⟩ = some (.int .i64 k1) ∧ w1.cell? ⟨wr.heap.size, 1, none⟩ = some (.string l1) ∧ w1.cell? ⟨wr.heap.size, 2, none⟩ = some (.slice KA d1.len cA) ∧ w1.cell? ⟨wr.heap.size, 3, none⟩ = some (.int .i64 mn1) ∧ w1.cell? ⟨wr.heap.size, 4, none⟩ = some (.int .i64 mx1) ∧ w1.cell? ⟨w.heap.size + 1, 2, none⟩ = some (.slice (some ⟨b1, o1, none⟩) kids'.len c') ∧ w1.cell? ⟨b1, o1 + q * 5, none⟩ = some (.int .i64 k2) ∧ w1.cell? ⟨b1, o1 + q * 5 + 1, none⟩ = some (.string l2) ∧ w1.cell? ⟨b1, o1 + q * 5 + 2, none⟩ = some (.slice KB d2.len cB) ∧ w1.cell? ⟨b1, o1 + q * 5 + 3, none⟩ = some (.int .i64 mn2) ∧ w1.cell? ⟨b1, o1 + q * 5 + 4, none⟩ = some (.int .i64 mx2))))
            clear hsz hat1 hat2 hcel h3 hcelb h4 hbx
            generalize sameL (.cons k1 l1 d1 mn1 mx1 .nil) (.cons k2 l2 d2 mn2 mx2 .nil) = z at *
            go_wp2_with fail
            have FI := HS.out _ (Below.refl _ _)
            go_region_held3 (fun w' => (w'.cell? ⟨wr.heap.size, 0, none⟩ = some (.int .i64 k1) ∧ w'.cell? ⟨wr.heap.size, 1, none⟩ = some (.string l1) ∧ w'.cell? ⟨wr.heap.size, 2, none⟩ = some (.slice KA d1.len cA) ∧ w'.cell? ⟨wr.heap.size, 3, none⟩ = some (.int .i64 mn1) ∧ w'.cell? ⟨wr.heap.size, 4, none⟩ = some (.int .i64 mx1) ∧ w'.cell? ⟨w.heap.size + 1, 2, none⟩ = some (.slice (some ⟨b1, o1, none⟩) kids'.len c') ∧ w'.cell? ⟨b1, o1 + q * 5, none⟩ = some (.int .i64 k2) ∧ w'.cell? ⟨b1, o1 + q * 5 + 1, none⟩ = some (.string l2) ∧ w'.cell? ⟨b1, o1 + q * 5 + 2, none⟩ = some (.slice KB d2.len cB) ∧ w'.cell? ⟨b1, o1 + q * 5 + 3, none⟩ = some (.int .i64 mn2) ∧ w'.cell? ⟨b1, o1 + q * 5 + 4, none⟩ = some (.int .i64 mx2))) (first | exact FI | exact F1.out) (first | (go_at_call 26; (with_reducible refine (HC.out _ HBK.out.drew).mono ?_); rintro e w2 ⟨rfl, hb2⟩; have HB2 := Lib.hid ((Below.refl (wr.alloc (cells5 k1 l1 KA d1.len cA mn1 mx1)).heap.size (wr.alloc (cells5 k1 l1 KA d1.len cA mn1 mx1))).drew.trans (hb2.mono (Below.refl (wr.alloc (cells5 k1 l1 KA d1.len cA mn1 mx1)).heap.size (wr.alloc (cells5 k1 l1 KA d1.len cA mn1 mx1))).drew.size)); have F1 := Lib.hid (HS.out w2 HB2.out); clear hb2))
            all_goals
              have HB3 := Lib.hid (HB.out.trans ((HBK.out.trans (HB2.out.mono HBK.out.size)).mono hws.out))
              cases z
              · have hE := Lib.hid (show sameL kids kids' = false from hl1.out)
                go_wp2_with fail
                go_ret
                exact ⟨by rw [HE.out, hE.out]; rfl, HWW.out.trans (HB3.out.mono (by omega))⟩
              · have hE := Lib.hid (show sameL r1 r2 = sameL kids kids' from hl1.out.symm)
                go_wp2_with fail
                exact ⟨⟨q + 1, _, r1, _, r2, hkk, hqq, hkk', hqq', by go_num, hE, HB3⟩, by simp [RowKit.intOf]; omega⟩
    · have t9 : (k == 9) = false := by rw [beq_eq_false_iff_ne]; exact hk9
      have HE := Lib.hid (show sameL (.cons k l kids mn mx .nil) (.cons k l' kids' mn' mx' .nil) = sameL kids kids' by rw [hE0, t9]; rfl)
      clear hE0 hk2 hk3 hk9
      go_enter Tryz.func26, Tryz.ntmps26
      go_wp2_with fail
      go_loopw [48] (fun iv wr => ∃ (q : Nat) (dn r dn' r' : Fo), Hid (kids = dn.app r) ∧ Hid (dn.len = q) ∧ Hid (kids' = dn'.app r') ∧ Hid (dn'.len = q) ∧ iv = .int .i64 q ∧ Hid (sameL r r' = sameL kids kids') ∧ Hid (Below (w.heap.size + 1 + 1) ((w.alloc (cells5 k l A kids.len c mn mx)).alloc (cells5 k l' A' kids'.len c' mn' mx')) wr)) (fun iv _ => kids.len - (RowKit.intOf iv).toNat)
      case atStart => exact ⟨0, .nil, kids, .nil, kids', Lib.hid rfl, Lib.hid rfl, Lib.hid rfl, Lib.hid rfl, rfl, Lib.hid rfl, Lib.hid (Below.refl _ _)⟩
      case round =>
        obtain ⟨q, dn, r, dn', r', hk, hq, hk', hq', rfl, hlp, HB⟩ := hrel
        have hlen := Lib.hid (show kids.len = q + r.len by rw [hk.out, Fo.app_len, hq.out])
        have hlen' := Lib.hid (show kids'.len = q + r'.len by rw [hk'.out, Fo.app_len, hq'.out])
        have HB1 := Lib.hid (HWW.out.trans (HB.out.mono (by omega)))
        have hbx := (box2 HB.out).2.1
        cases r with
        | nil =>
          have hlt : ¬ (q : Int) < kids.len := by have := hlen.out; simp only [Fo.len] at this; omega
          have hlt2 : decide (q < kids.len) = false := decide_eq_false (by omega)
          have hr' : r' = .nil := by
            apply nil_len
            have := hlen.out; have := hlen'.out; have := HLL.out; simp only [Fo.len] at *; omega
          have hE := Lib.hid (show sameL kids kids' = true by rw [← hlp.out, hr']; rfl)
          clear hr'
          go_wp2_with fail
          go_ret
          exact ⟨by rw [HE.out, hE.out]; rfl, HB1.out⟩
        | cons k1 l1 d1 mn1 mx1 r1 =>
          have hlt : (q : Int) < kids.len := by have := hlen.out; simp only [Fo.len] at this; omega
          have hlt2 : decide (q < kids.len) = true := decide_eq_true (by omega)
          have hltb : (q : Int) < kids'.len := by have := HLL.out; omega
          have hq0 : (0 : Int) ≤ q := by omega
          cases r' with
          | nil => exfalso; have := hlen.out; have := hlen'.out; have := HLL.out; simp only [Fo.len] at *; omega
          | cons k2 l2 d2 mn2 mx2 r2 =>
            obtain ⟨b0, o0, hA0⟩ := Nd.first (a := ⟨0, ByteArray.empty, A, c, 0, 0, kids⟩) HA.out hk.out
            obtain ⟨b1, o1, hA1⟩ := Nd.first (a := ⟨0, ByteArray.empty, A', c', 0, 0, kids'⟩) HA'.out hk'.out
            simp only at hA0 hA1
            subst hA0 hA1
            have h3 := HA.out.below HB1.out
            rw [hk.out] at h3
            obtain ⟨KA, cA, hcel, hc3, hc4, hat1⟩ := h3.nth hq.out
            have h4 := HA'.out.below HB1.out
            rw [hk'.out] at h4
            obtain ⟨KB, cB, hcelb, hd3, hd4, hat2⟩ := h4.nth hq'.out
            have hcel1 := hcel.1
            have hcel2 := hcel.2.1
            have hcel3 := hcel.2.2.1
            have hcel4 := hcel.2.2.2.1
            have hcel5 := hcel.2.2.2.2
            have HCB := Lib.hid hcelb
            have hsz : d1.sz < n := by
              have h5 := congrArg Fo.sz hk.out
              rw [Fo.app_sz] at h5
              have h6 := HN.out
              simp only [Fo.sz] at h5
              omega
            have HC := Lib.hid (fun (w1 : World) (hb1 : Below wr.heap.size wr w1) => IH.out ⟨k1, l1, KA, cA, mn1, mx1, d1⟩ ⟨k2, l2, KB, cB, mn2, mx2, d2⟩ X w1 hsz ⟨hc3, hc4, hat1.below hb1⟩ ⟨hd3, hd4, hat2.below hb1⟩)
            unfold Nd.v Nd.fo at HC
            simp only at HC
            have hl1 := Lib.hid (show sameL kids kids' = (sameL (.cons k1 l1 d1 mn1 mx1 .nil) (.cons k2 l2 d2 mn2 mx2 .nil) && sameL r1 r2) by rw [← hlp.out]; exact sameL_cons _ _ _ _ _ _ _ _ _ _ _ _)
            have hkk := Lib.hid (show kids = (dn.app (.cons k1 l1 d1 mn1 mx1 .nil)).app r1 by rw [hk.out, Fo.app_assoc]; rfl)
            have hqq := Lib.hid (show (dn.app (.cons k1 l1 d1 mn1 mx1 .nil)).len = q + 1 by rw [Fo.app_len, hq.out]; rfl)
            have hkk' := Lib.hid (show kids' = (dn'.app (.cons k2 l2 d2 mn2 mx2 .nil)).app r2 by rw [hk'.out, Fo.app_assoc]; rfl)
            have hqq' := Lib.hid (show (dn'.app (.cons k2 l2 d2 mn2 mx2 .nil)).len = q + 1 by rw [Fo.app_len, hq'.out]; rfl)
            have hws := Lib.hid (show w.heap.size + 1 + 1 ≤ wr.heap.size by have := HB.out.size; simpa using this)
            have HXK := Lib.hid (Bx.new wr (.int .i64 k1) (.string l1) (.slice KA d1.len cA) (.int .i64 mn1) (.int .i64 mx1) 24)
            have HBK := Lib.hid ((Below.refl wr.heap.size wr).alloc (Nat.le_refl _) (cells5 k1 l1 KA d1.len cA mn1 mx1))
            have HS := Lib.hid (fun (w1 : World) (hb : Below (wr.alloc (cells5 k1 l1 KA d1.len cA mn1 mx1)).heap.size (wr.alloc (cells5 k1 l1 KA d1.len cA mn1 mx1)) w1) => (⟨(HXK.out.below hb).c0, (HXK.out.below hb).c1, (HXK.out.below hb).c2, (HXK.out.below hb).c3, (HXK.out.below hb).c4, ((HBK.out.trans (hb.mono HBK.out.size)).cell (cell_lt hbx)).trans hbx, ((HBK.out.trans (hb.mono HBK.out.size)).cell (cell_lt HCB.out.1)).trans HCB.out.1, ((HBK.out.trans (hb.mono HBK.out.size)).cell (cell_lt HCB.out.2.1)).trans HCB.out.2.1, ((HBK.out.trans (hb.mono HBK.out.size)).cell (cell_lt HCB.out.2.2.1)).trans HCB.out.2.2.1, ((HBK.out.trans (hb.mono HBK.out.size)).cell (cell_lt HCB.out.2.2.2.1)).trans HCB.out.2.2.2.1, ((HBK.out.trans (hb.mono HBK.out.size)).cell (cell_lt HCB.out.2.2.2.2)).trans HCB.out.2.2.2.2⟩ :
              (w1.cell? ⟨wr.heap.size, 0, none⟩ = some (.int .i64 k1) ∧ w1.cell? ⟨wr.heap.size, 1, none⟩ = some (.string l1) ∧ w1.cell? ⟨wr.heap.size, 2, none⟩ = some (.slice KA d1.len cA) ∧ w1.cell? ⟨wr.heap.size, 3, none⟩ = some (.int .i64 mn1) ∧ w1.cell? ⟨wr.heap.size, 4, none⟩ = some (.int .i64 mx1) ∧ w1.cell? ⟨w.heap.size + 1, 2, none⟩ = some (.slice (some ⟨b1, o1, none⟩) kids'.len c') ∧ w1.cell? ⟨b1, o1 + q * 5, none⟩ = some (.int .i64 k2) ∧ w1.cell? ⟨b1, o1 + q * 5 + 1, none⟩ = some (.string l2) ∧ w1.cell? ⟨b1, o1 + q * 5 + 2, none⟩ = some (.slice KB d2.len cB) ∧ w1.cell? ⟨b1, o1 + q * 5 + 3, none⟩ = some (.int .i64 mn2) ∧ w1.cell? ⟨b1, o1 + q * 5 + 4, none⟩ = some (.int .i64 mx2))))
            clear hsz hat1 hat2 hcel h3 hcelb h4 hbx
            generalize sameL (.cons k1 l1 d1 mn1 mx1 .nil) (.cons k2 l2 d2 mn2 mx2 .nil) = z at *
            go_wp2_with fail
            have FI := HS.out _ (Below.refl _ _)
            go_region_held3 (fun w' => (w'.cell? ⟨wr.heap.size, 0, none⟩ = some (.int .i64 k1) ∧ w'.cell? ⟨wr.heap.size, 1, none⟩ = some (.string l1) ∧ w'.cell? ⟨wr.heap.size, 2, none⟩ = some (.slice KA d1.len cA) ∧ w'.cell? ⟨wr.heap.size, 3, none⟩ = some (.int .i64 mn1) ∧ w'.cell? ⟨wr.heap.size, 4, none⟩ = some (.int .i64 mx1) ∧ w'.cell? ⟨w.heap.size + 1, 2, none⟩ = some (.slice (some ⟨b1, o1, none⟩) kids'.len c') ∧ w'.cell? ⟨b1, o1 + q * 5, none⟩ = some (.int .i64 k2) ∧ w'.cell? ⟨b1, o1 + q * 5 + 1, none⟩ = some (.string l2) ∧ w'.cell? ⟨b1, o1 + q * 5 + 2, none⟩ = some (.slice KB d2.len cB) ∧ w'.cell? ⟨b1, o1 + q * 5 + 3, none⟩ = some (.int .i64 mn2) ∧ w'.cell? ⟨b1, o1 + q * 5 + 4, none⟩ = some (.int .i64 mx2))) (first | exact FI | exact F1.out) (first | (go_at_call 26; (with_reducible refine (HC.out _ HBK.out.drew).mono ?_); rintro e w2 ⟨rfl, hb2⟩; have HB2 := Lib.hid ((Below.refl (wr.alloc (cells5 k1 l1 KA d1.len cA mn1 mx1)).heap.size (wr.alloc (cells5 k1 l1 KA d1.len cA mn1 mx1))).drew.trans (hb2.mono (Below.refl (wr.alloc (cells5 k1 l1 KA d1.len cA mn1 mx1)).heap.size (wr.alloc (cells5 k1 l1 KA d1.len cA mn1 mx1))).drew.size)); have F1 := Lib.hid (HS.out w2 HB2.out); clear hb2))
            all_goals
              have HB3 := Lib.hid (HB.out.trans ((HBK.out.trans (HB2.out.mono HBK.out.size)).mono hws.out))
              cases z
              · have hE := Lib.hid (show sameL kids kids' = false from hl1.out)
                go_wp2_with fail
                go_ret
                exact ⟨by rw [HE.out, hE.out]; rfl, HWW.out.trans (HB3.out.mono (by omega))⟩
              · have hE := Lib.hid (show sameL r1 r2 = sameL kids kids' from hl1.out.symm)
                go_wp2_with fail
                exact ⟨⟨q + 1, _, r1, _, r2, hkk, hqq, hkk', hqq', by go_num, hE, HB3⟩, by simp [RowKit.intOf]; omega⟩
theorem Same_any (a b : Nd) (X : List Nat) (w : World) (ha : a.ok w X) (hb : b.ok w X) : Calls Tryz.prog 26 #[a.v, b.v] w fun e w' => e = .returned (.bool (sameL (a.fo .nil) (b.fo .nil))) ∧ Below w.heap.size w w' := same_n (a.kids.sz + 1) a b X w (by omega) ha hb
end Go.Proofs.YtpaehicfndkliaaGreatDoor.Pa
