
/- Plain facts: what a path's kind does not ask for does not count; a path's text is not long; it is read as the path that it is. No condition. -/
import Derived.Test.YtpaehicfndkliaaGreatDoorQt
namespace Go.Proofs.YtpaehicfndkliaaGreatDoor.Pa
open Go.RowKit Go.Lib Na Go.PN

theorem nrm_noneK (q : Int) (f : Fo) : noneK q (nrm f) = noneK q f := by
  induction f with
  | nil => rfl
  | cons k l d mn mx r _ ih => rw [nrm, noneK, noneK, ih]
theorem nrm_one (k : Int) (l : ByteArray) (d : Fo) (mn mx : Int) : oneE k (if k = 2 ∨ k = 3 then l else ⟨#[]⟩) (nrm d) (if k = 9 then mn else 0) (if k = 9 then mx else 0) = oneE k l d mn mx := by
  unfold oneE
  rw [nrm_len, nrm_noneK]
  by_cases h : k = 2 ∨ k = 3
  · rw [if_pos h, if_neg (show ¬ k = 9 from by omega), if_neg (show ¬ k = 9 from by omega)]
    have e : (k == 2 || k == 3) = true := by rcases h with rfl | rfl <;> rfl
    simp only [e, if_true]
  · rw [if_neg h]
    have e : (k == 2 || k == 3) = false := by
      rw [Bool.or_eq_false_iff, beq_eq_false_iff_ne, beq_eq_false_iff_ne]; omega
    simp only [e, Bool.false_eq_true, if_false]
    by_cases h9 : k = 9
    · rw [if_pos h9, if_pos h9]
    · have e9 : (k == 9) = false := by rw [beq_eq_false_iff_ne]; exact h9
      simp only [e9, Bool.false_eq_true, if_false]
theorem nrm_alL (f : Fo) (e : Int) : alL (nrm f) e = alL f e := by
  induction f generalizing e with
  | nil => rfl
  | cons k l d mn mx r ih1 ih2 =>
    rw [nrm, alL_cons, alL_cons]
    have h1 : allE k (if k = 2 ∨ k = 3 then l else ⟨#[]⟩) (nrm d) (if k = 9 then mn else 0) (if k = 9 then mx else 0) = allE k l d mn mx := by
      unfold allE; rw [nrm_one, ih1]
    rw [h1, ih2]
theorem nrm_allE (k : Int) (l : ByteArray) (d : Fo) (mn mx : Int) : allE k (if k = 2 ∨ k = 3 then l else ⟨#[]⟩) (nrm d) (if k = 9 then mn else 0) (if k = 9 then mx else 0) = allE k l d mn mx := by
  unfold allE; rw [nrm_one, nrm_alL]
theorem nrm_lp (f : Fo) (at_ out : Int) : lp (nrm f) at_ out = lp f at_ out := by
  induction f generalizing at_ out with
  | nil => rfl
  | cons k l d mn mx r ih1 ih2 =>
    rw [nrm, lp_cons, lp_cons]
    have h1 : dp (nrm d) (at_ + 1) = dp d (at_ + 1) := by unfold dp; rw [ih1]
    rw [h1, ih2]
theorem nrm_dp (f : Fo) (at_ : Int) : dp (nrm f) at_ = dp f at_ := by unfold dp; rw [nrm_lp]
theorem nrm_sizeI (k n mn mx : Int) : sizeI k n (if k = 9 then mn else 0) (if k = 9 then mx else 0) = sizeI k n mn mx := by
  by_cases h9 : k = 9
  · rw [if_pos h9, if_pos h9]
  · rw [if_neg h9, if_neg h9]; unfold sizeI; rw [if_neg h9, if_neg h9]
theorem nrm_szL (f : Fo) (n : Int) : szL (nrm f) n = szL f n := by
  induction f generalizing n with
  | nil => rfl
  | cons k l d mn mx r ih1 ih2 =>
    rw [nrm, szL_cons, szL_cons]
    have h1 : sizeF k (nrm d) (if k = 9 then mn else 0) (if k = 9 then mx else 0) = sizeF k d mn mx := by unfold sizeF; rw [ih1, nrm_sizeI]
    rw [h1, ih2]
theorem nrm_sizeF (k : Int) (d : Fo) (mn mx : Int) : sizeF k (nrm d) (if k = 9 then mn else 0) (if k = 9 then mx else 0) = sizeF k d mn mx := by unfold sizeF; rw [nrm_szL, nrm_sizeI]
theorem nrm_check (k : Int) (l : ByteArray) (d : Fo) (mn mx : Int) : checkE k (if k = 2 ∨ k = 3 then l else ⟨#[]⟩) (nrm d) (if k = 9 then mn else 0) (if k = 9 then mx else 0) = checkE k l d mn mx := by
  unfold checkE; rw [nrm_dp, nrm_allE, nrm_sizeF]
theorem bodyT_nrm (k : Int) (l : ByteArray) (mn mx : Int) (s2 s1 : List (List UInt8)) : bodyT k (if k = 2 ∨ k = 3 then l else ⟨#[]⟩) (if k = 9 then mn else 0) (if k = 9 then mx else 0) s2 s1 = bodyT k l mn mx s2 s1 := by
  unfold bodyT
  by_cases k2 : k = 2
  · rw [if_pos k2, if_pos k2, if_pos (Or.inl k2)]
  by_cases k3 : k = 3
  · rw [if_neg k2, if_neg k2, if_pos k3, if_pos k3, if_pos (Or.inr k3)]
  rw [if_neg k2, if_neg k2, if_neg k3, if_neg k3]
  by_cases h9 : k = 9
  · subst h9; rfl
  · simp only [if_neg h9]
theorem nrm_tx (f : Fo) (p : Int) : tx (nrm f) p = tx f p := by
  induction f generalizing p with
  | nil => rfl
  | cons k l d mn mx r ih1 ih2 =>
    rw [nrm, tx_cons, tx_cons, ih2]
    have h1 : txN k (if k = 2 ∨ k = 3 then l else ⟨#[]⟩) (nrm d) (if k = 9 then mn else 0) (if k = 9 then mx else 0) p = txN k l d mn mx p := by
      unfold txN bodyN; rw [ih1, ih1, bodyT_nrm]
    rw [h1]
theorem nrm_body (k : Int) (l : ByteArray) (d : Fo) (mn mx : Int) : bodyN k (if k = 2 ∨ k = 3 then l else ⟨#[]⟩) (nrm d) (if k = 9 then mn else 0) (if k = 9 then mx else 0) = bodyN k l d mn mx := by
  unfold bodyN; rw [nrm_tx, nrm_tx, bodyT_nrm]
theorem nrm_text (k : Int) (l : ByteArray) (d : Fo) (mn mx : Int) : textF (nrm (.cons k l d mn mx .nil)) = textT k l d mn mx := by
  show textT _ _ _ _ _ = _
  unfold textT; rw [nrm_check, nrm_body]
theorem nrm_nrm (f : Fo) : nrm (nrm f) = nrm f := by
  induction f with
  | nil => rfl
  | cons k l d mn mx r ih1 ih2 =>
    rw [nrm, nrm, ih1, ih2]
    congr 1
    · split <;> rfl
    · split <;> rfl
    · split <;> rfl
/-- How long texts are of paths that are not too great. -/
theorem lens_sz {f : Fo} (h : Val f) (p : Int) (hp2 : p ≤ 2) (n : Int) (hn : 0 ≤ n) (hs : szL f n ≤ 60) (hn2 : n ≤ 1099511627776) : 64 * n + (lens1 (tx f p) : Int) ≤ 64 * szL f n := by
  induction f generalizing p n with
  | nil => simp [tx, lens1, szL]
  | cons k l d mn mx r ih1 ih2 =>
    obtain ⟨h1, h2, h3⟩ := h.cons
    rw [szL_cons] at hs ⊢
    have hr := sizeF_rng k d mn mx
    have hge := szL_ge r (min (n + sizeF k d mn mx) 1099511627776) (by omega)
    have h4 : min (n + sizeF k d mn mx) 1099511627776 = n + sizeF k d mn mx := by omega
    rw [h4] at hs hge ⊢
    have h5 := sizeF_gt h1 (by omega)
    have hz := szL_rng d 0 (by decide)
    have h6 := fun q (hq : q ≤ 2) => ih1 h2 q hq 0 (by decide) (by omega) (by decide)
    have h7 := ih2 h3 p hp2 (n + sizeF k d mn mx) (by omega) hs (by omega)
    rw [tx_cons, lens1_cons]
    obtain ⟨hk, h0, hk4, hk6, hl, h9⟩ := one_zero h1
    have hb : ((txN k l d mn mx p).length : Int) + 1 ≤ 64 * sizeF k d mn mx := by
      have hnl := (nameT_len l.data.toList).2
      have hls : l.data.toList.length = l.size := by simp
      rw [hls] at hnl
      have j1 := join_le (tx d 2) [47] (by simp)
      have j2 := join_le (tx d 1) [124] (by simp)
      have j3 := join_le (tx d 2) [] (by simp)
      have a1 := h6 1 (by omega)
      have a2 := h6 2 (by omega)
      have hbody : ((bodyN k l d mn mx).length : Int) + 3 ≤ 64 * sizeF k d mn mx ∨ (bnd k = 2 ∧ ((bodyN k l d mn mx).length : Int) + 1 ≤ 64 * sizeF k d mn mx) := by
        unfold bodyN bodyT
        by_cases k2 : k = 2
        · have := hl (Or.inl k2)
          rw [if_pos k2]; right; exact ⟨by subst k2; decide, by omega⟩
        by_cases k3 : k = 3
        · have := hl (Or.inr k3)
          rw [if_neg k2, if_pos k3, List.length_cons]; right; exact ⟨by subst k3; decide, by omega⟩
        rw [if_neg k2, if_neg k3]
        left
        by_cases k9 : k = 9
        · have hm := h9 k9
          have i1 := itoa_1 mn (by omega) (by omega)
          have i2 : (if mx = -1 then [] else itoa mx).length ≤ 2 := by
            split
            · simp
            · exact itoa_1 mx (by omega) (by omega)
          rw [if_neg (by omega), if_neg (by omega), if_neg (by omega), if_neg (by omega), if_neg (by omega), if_pos k9]
          simp only [List.length_append, List.length_cons, List.length_nil]
          omega
        · rw [if_neg k9]
          repeat' split
          all_goals first | omega | (simp only [List.length_append, List.length_cons, List.length_nil]; omega)
      unfold txN
      rcases hbody with hb | ⟨hb, hb2⟩
      · split
        · simp only [List.length_append, List.length_cons, List.length_nil]; omega
        · omega
      · by_cases hp : bnd k < p
        · rw [if_pos hp]
          omega
        · rw [if_neg hp]; omega
    omega
theorem text_len {k : Int} {l : ByteArray} {d : Fo} {mn mx : Int} (h : checkE k l d mn mx = 0) : (bodyN k l d mn mx).length < 3840 ∧ 1 ≤ (bodyN k l d mn mx).length := by
  obtain ⟨hv, _, hs, _, h60⟩ := check_zero h
  have hz : szL (.cons k l d mn mx .nil) 0 = sizeF k d mn mx := by
    have hr := sizeF_rng k d mn mx
    rw [szL_cons]
    show min (0 + sizeF k d mn mx) 1099511627776 = _
    omega
  have h1 := lens_sz hv 0 (by omega) 0 (by decide) (by rw [hz]; exact hs) (by decide)
  rw [hz, tx_cons, lens1_cons, show txN k l d mn mx 0 = bodyN k l d mn mx from if_neg (by have := bnd_rng k; omega)] at h1
  obtain ⟨⟨c, t, e, _⟩, _⟩ := txN_head (d.sz + 1) k l d mn mx 0 (by omega) hv
  exact ⟨by omega, by rw [e]; simp⟩
/-- What was written is read as it was. -/
theorem parse_back {k : Int} {l : ByteArray} {d : Fo} {mn mx : Int} (h : checkE k l d mn mx = 0) : parseR (textT k l d mn mx) = (nrm (.cons k l d mn mx .nil), 0) := by
  obtain ⟨hv, _, hs, _, h60⟩ := check_zero h
  obtain ⟨hl, hl1⟩ := text_len h
  have ht : textT k l d mn mx = bodyN k l d mn mx := if_pos h
  have ha := alt_back np_good k l d mn mx hv (by omega) 79 (by omega) [] (fun c hc => by cases hc)
  rw [List.append_nil] at ha
  have hr : readR (bodyN k l d mn mx) = some (nrm (.cons k l d mn mx .nil), (bodyN k l d mn mx).length) := by
    unfold readR
    rw [ha]
    simp only
    rw [nrm_text, ht, if_pos (by simp)]
    rfl
  rw [ht]
  unfold parseR
  rw [if_neg (by omega), hr]
  simp only
  rw [if_neg (by omega)]
/-- What is read is the text of what is read. -/
theorem parse_text {t : List UInt8} {p : Fo} (h : parseR t = (p, 0)) : textF p = t := by
  unfold parseR at h
  split at h
  · injection h with _ h; cases h
  · cases hr : readR t with
    | none => rw [hr] at h; injection h with _ h; cases h
    | some x =>
      obtain ⟨q, n⟩ := x
      rw [hr] at h
      simp only at h
      split at h
      · injection h with _ h; cases h
      · rename_i hn
        injection h with h _
        subst h
        unfold readR at hr
        cases ha : altR NP 80 t with
        | none => rw [ha] at hr; cases hr
        | some y =>
          obtain ⟨q2, u⟩ := y
          rw [ha] at hr
          simp only at hr
          split at hr
          · rename_i ht
            injection hr with hr
            injection hr with h1 h2
            subst h1
            rw [ht, h2]
            exact List.take_of_length_le (by omega)
          · cases hr
end Go.Proofs.YtpaehicfndkliaaGreatDoor.Pa
