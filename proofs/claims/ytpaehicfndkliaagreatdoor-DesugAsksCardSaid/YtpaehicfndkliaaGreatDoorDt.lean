
/- Paths turned round, plainly: they may be, they weigh the same, they have the same labels. No condition. -/
import Derived.Test.YtpaehicfndkliaaGreatDoorDo
import Derived.Test.YtpaehicfndkliaaGreatDoorDr
import Derived.Test.YtpaehicfndkliaaGreatDoorRa
namespace Go.Proofs.YtpaehicfndkliaaGreatDoor.De
open Go.RowKit Go.Lib Na Go.PN Pa

abbrev kt (k : Int) : Int := if k = 2 then 3 else if k = 3 then 2 else k
abbrev dt (k : Int) (L : Fo) : Fo := if k = 4 then revF L else L
theorem tuL_cons (k : Int) (l : ByteArray) (d : Fo) (mn mx : Int) (r : Fo) : tuL (.cons k l d mn mx r) = .cons (kt k) (if k = 2 ∨ k = 3 then l else ⟨#[]⟩) (dt k (tuL d)) (if k = 9 then mn else 0) (if k = 9 then mx else 0) (tuL r) := rfl
theorem tuL_rev (f : Fo) : tuL (revF f) = revF (tuL f) := by
  induction f with
  | nil => rfl
  | cons k l d mn mx r _ ih => rw [revF, tuL_app, ih]; rfl
theorem kt_kt (k : Int) : kt (kt k) = k := by unfold kt; repeat' split <;> omega
theorem kt_eq {k : Int} {j : Int} (h : j ≠ 2) (h' : j ≠ 3) : kt k = j ↔ k = j := by unfold kt; repeat' split <;> omega
theorem kt_23 (k : Int) : (kt k = 2 ∨ kt k = 3) ↔ (k = 2 ∨ k = 3) := by unfold kt; repeat' split <;> omega
theorem nrm_rev (f : Fo) : nrm (revF f) = revF (nrm f) := by
  induction f with
  | nil => rfl
  | cons k l d mn mx r _ ih => rw [revF, nrm_app, ih]; rfl
/-- Turned round twice a row is as it was. -/
theorem tuL_tuL (f : Fo) : tuL (tuL f) = nrm f := by
  induction f with
  | nil => rfl
  | cons k l d mn mx r ih1 ih2 =>
    rw [tuL_cons, tuL_cons, ih2, nrm, kt_kt]
    have h4 : (kt k = 4) = (k = 4) := propext (kt_eq (by decide) (by decide))
    have h9 : (kt k = 9) = (k = 9) := propext (kt_eq (by decide) (by decide))
    have h23 : (kt k = 2 ∨ kt k = 3) = (k = 2 ∨ k = 3) := propext (kt_23 k)
    have hd : dt (kt k) (tuL (dt k (tuL d))) = nrm d := by
      unfold dt
      by_cases e : k = 4
      · rw [if_pos (h4 ▸ e), if_pos e, tuL_rev, ih1, revF_rev]
      · rw [if_neg (h4 ▸ e), if_neg e, ih1]
    rw [hd]
    congr 1
    · by_cases e : k = 2 ∨ k = 3
      · rw [if_pos (h23 ▸ e), if_pos e]
      · rw [if_neg (h23 ▸ e), if_neg e]
    · by_cases e : k = 9
      · rw [if_pos (h9 ▸ e), if_pos e]
      · rw [if_neg (h9 ▸ e), if_neg e]
    · by_cases e : k = 9
      · rw [if_pos (h9 ▸ e), if_pos e]
      · rw [if_neg (h9 ▸ e), if_neg e]
theorem noneK_rev (K : Int) (f : Fo) : noneK K (revF f) = noneK K f := by
  induction f with
  | nil => rfl
  | cons k l d mn mx r _ ih => rw [revF, noneK_app, ih, noneK, noneK, noneK]; simp [Bool.and_comm]
theorem noneK_tu {K : Int} (h2 : K ≠ 2) (h3 : K ≠ 3) (f : Fo) : noneK K (tuL f) = noneK K f := by
  induction f with
  | nil => rfl
  | cons k l d mn mx r _ ih =>
    rw [tuL_cons, noneK, noneK, ih]
    congr 1
    have := kt_eq (k := k) h2 h3
    by_cases e : k = K
    · subst e; rw [this.2 rfl]
    · have e2 : ¬ kt k = K := fun h => e (this.1 h)
      rw [show (kt k == K) = false from beq_eq_false_iff_ne.2 e2, show (k == K) = false from beq_eq_false_iff_ne.2 e]
theorem one_tu (k : Int) (l : ByteArray) (d : Fo) (mn mx : Int) : oneE (kt k) (if k = 2 ∨ k = 3 then l else ⟨#[]⟩) (dt k (tuL d)) (if k = 9 then mn else 0) (if k = 9 then mx else 0) = oneE k l d mn mx := by
  have hlen : (dt k (tuL d)).len = d.len := by unfold dt; split <;> simp [revF_len, tuL_len]
  by_cases h2 : k = 2
  · subst h2; simp [oneE, kt, dt, leastI, mostI, kindB, tuL_len]
  by_cases h3 : k = 3
  · subst h3; simp [oneE, kt, dt, leastI, mostI, kindB, tuL_len]
  have hk : kt k = k := by unfold kt; rw [if_neg h2, if_neg h3]
  rw [hk, if_neg (by omega)]
  unfold oneE
  rw [hlen]
  have hn : (k == 4 || k == 5) = true → noneK k (dt k (tuL d)) = noneK k d := by
    intro h
    have h45 : k = 4 ∨ k = 5 := by simpa using h
    unfold dt
    split
    · rw [noneK_rev, noneK_tu (by omega) (by omega)]
    · rw [noneK_tu (by omega) (by omega)]
  have e23 : (k == 2 || k == 3) = false := by simp [h2, h3]
  cases h45 : (k == 4 || k == 5)
  · simp [e23]
    split
    · rfl
    · split <;> simp_all
  · rw [hn h45]
    simp [e23]
    have : k ≠ 9 := by have h : k = 4 ∨ k = 5 := by simpa using h45
                       omega
    simp [this]
theorem Val.app_mk {f g : Fo} (h : Val f) (hg : Val g) : Val (f.app g) := by
  induction f with
  | nil => exact hg
  | cons k l d mn mx r _ ih => exact Val.mk h.cons.1 h.cons.2.1 (ih h.cons.2.2)
theorem val_rev {f : Fo} (h : Val f) : Val (revF f) := by
  induction f with
  | nil => exact h
  | cons k l d mn mx r _ ih => exact (ih h.cons.2.2).app_mk (Val.mk h.cons.1 h.cons.2.1 rfl)
theorem val_tu {f : Fo} (h : Val f) : Val (tuL f) := by
  induction f with
  | nil => exact h
  | cons k l d mn mx r ih1 ih2 =>
    obtain ⟨h1, h2, h3⟩ := h.cons
    rw [tuL_cons]
    refine Val.mk (by rw [one_tu]; exact h1) ?_ (ih2 h3)
    unfold dt
    split
    · exact val_rev (ih1 h2)
    · exact ih1 h2
/-- How deep a row is. -/
def dpt : Fo → Int
  | .nil => 0
  | .cons _ _ d _ _ r => max (dpt d + 1) (dpt r)
theorem dpt_ge (f : Fo) : 0 ≤ dpt f := by
  induction f with
  | nil => exact Int.le_refl _
  | cons k l d mn mx r ih1 ih2 => rw [dpt]; omega
theorem dpt_app (f g : Fo) : dpt (f.app g) = max (dpt f) (dpt g) := by
  induction f with
  | nil => have := dpt_ge g; rw [Fo.app, dpt]; omega
  | cons k l d mn mx r _ ih => rw [Fo.app, dpt, dpt, ih]; omega
theorem dpt_rev (f : Fo) : dpt (revF f) = dpt f := by
  induction f with
  | nil => rfl
  | cons k l d mn mx r _ ih => rw [revF, dpt_app, ih, dpt, dpt, dpt]; have := dpt_ge d; have := dpt_ge r; omega
theorem dpt_tu (f : Fo) : dpt (tuL f) = dpt f := by
  induction f with
  | nil => rfl
  | cons k l d mn mx r ih1 ih2 =>
    rw [tuL_cons, dpt, dpt, ih2]
    unfold dt
    split
    · rw [dpt_rev, ih1]
    · rw [ih1]
theorem lp_dpt (f : Fo) (at_ out : Int) (h : at_ + dpt f ≤ 40) (ho : at_ + out ≤ 40) (h0 : 0 ≤ out) : lp f at_ out = max out (dpt f) := by
  induction f generalizing at_ out with
  | nil => rw [lp, dpt]; omega
  | cons k l d mn mx r ih1 ih2 =>
    have hg := dpt_ge d
    have hr := dpt_ge r
    rw [dpt] at h
    have h1 : dp d (at_ + 1) = dpt d + 1 := by
      unfold dp
      rw [if_neg (by omega), ih1 (at_ + 1) 0 (by omega) (by omega) (Int.le_refl _)]
      omega
    rw [lp_cons, h1, if_neg (by omega), ih2 at_ _ (by omega) (by omega) (by omega), dpt]
    omega
theorem dpt_lp (f : Fo) (at_ out : Int) (h0 : 0 ≤ out) (h1 : at_ ≤ 40) (h : at_ + lp f at_ out ≤ 40) : at_ + dpt f ≤ 40 := by
  induction f generalizing at_ out with
  | nil => rw [dpt]; omega
  | cons k l d mn mx r ih1 ih2 =>
    rw [lp_cons] at h
    split at h
    · omega
    · rename_i hn
      have hge := lp_ge r at_ (max out (dp d (at_ + 1)))
      have hd : at_ + dp d (at_ + 1) ≤ 40 := by omega
      have hd2 : at_ + dpt d + 1 ≤ 40 := by
        unfold dp at hd
        split at hd
        · have : at_ = 40 := by omega
          omega
        · have := ih1 (at_ + 1) 0 (Int.le_refl _) (by omega) (by omega)
          omega
      have := ih2 at_ (max out (dp d (at_ + 1))) (by omega) h1 h
      rw [dpt]
      omega
theorem dp_tu {k : Int} {d : Fo} (h : dp d 1 ≤ 20) : dp (dt k (tuL d)) 1 = dp d 1 := by
  unfold dp at *
  rw [if_neg (by decide)] at *
  rw [if_neg (by decide)]
  have h1 := dpt_lp d 1 0 (Int.le_refl _) (by decide) (by omega)
  have h2 : dpt (dt k (tuL d)) = dpt d := by
    unfold dt
    split
    · rw [dpt_rev, dpt_tu]
    · rw [dpt_tu]
  rw [lp_dpt _ 1 0 (by omega) (by decide) (Int.le_refl _), lp_dpt d 1 0 h1 (by decide) (Int.le_refl _), h2]
/-- The sizes of a row's paths, in all. -/
def smS : Fo → Int
  | .nil => 0
  | .cons k _ d mn mx r => sizeF k d mn mx + smS r
theorem smS_ge (f : Fo) : 0 ≤ smS f := by
  induction f with
  | nil => exact Int.le_refl _
  | cons k l d mn mx r _ ih => have := sizeF_rng k d mn mx; rw [smS]; omega
theorem smS_app (f g : Fo) : smS (f.app g) = smS f + smS g := by
  induction f with
  | nil => rw [Fo.app, smS]; omega
  | cons k l d mn mx r _ ih => rw [Fo.app, smS, smS, ih]; omega
theorem smS_rev (f : Fo) : smS (revF f) = smS f := by
  induction f with
  | nil => rfl
  | cons k l d mn mx r _ ih => rw [revF, smS_app, ih, smS, smS, smS]; omega
theorem szL_sum (f : Fo) (n : Int) (h : n ≤ 1099511627776) : szL f n = min (n + smS f) 1099511627776 := by
  induction f generalizing n with
  | nil => rw [szL, smS]; omega
  | cons k l d mn mx r _ ih =>
    have := sizeF_rng k d mn mx
    have hr := smS_ge r
    rw [szL_cons, ih _ (by omega), smS]
    omega
theorem szL_rev (f : Fo) : szL (revF f) 0 = szL f 0 := by rw [szL_sum _ _ (by decide), szL_sum _ _ (by decide), smS_rev]
theorem sizeI_tu (k n mn mx : Int) : sizeI (kt k) n (if k = 9 then mn else 0) (if k = 9 then mx else 0) = sizeI k n mn mx := by
  unfold kt
  by_cases h2 : k = 2
  · subst h2; rfl
  by_cases h3 : k = 3
  · subst h3; rfl
  rw [if_neg h2, if_neg h3]
  exact nrm_sizeI k n mn mx
theorem szL_tu (f : Fo) (n : Int) : szL (tuL f) n = szL f n := by
  induction f generalizing n with
  | nil => rfl
  | cons k l d mn mx r ih1 ih2 =>
    rw [tuL_cons, szL_cons, szL_cons, ih2]
    have : szL (dt k (tuL d)) 0 = szL d 0 := by
      unfold dt
      split
      · rw [szL_rev, ih1]
      · rw [ih1]
    unfold sizeF
    rw [this, sizeI_tu]
theorem sizeF_tu (k : Int) (d : Fo) (mn mx : Int) : sizeF (kt k) (dt k (tuL d)) (if k = 9 then mn else 0) (if k = 9 then mx else 0) = sizeF k d mn mx := by
  have : szL (dt k (tuL d)) 0 = szL d 0 := by
    unfold dt
    split
    · rw [szL_rev, szL_tu]
    · rw [szL_tu]
  unfold sizeF
  rw [this, sizeI_tu]
/-- A path that may be may be turned round. -/
theorem check_tu {k : Int} {l : ByteArray} {d : Fo} {mn mx : Int} (h : checkE k l d mn mx = 0) : checkE (kt k) (if k = 2 ∨ k = 3 then l else ⟨#[]⟩) (dt k (tuL d)) (if k = 9 then mn else 0) (if k = 9 then mx else 0) = 0 := by
  obtain ⟨h1, h2, h3, _⟩ := check_zero h
  have hv := val_tu h1
  rw [tuL_cons] at hv
  have ha : allE (kt k) (if k = 2 ∨ k = 3 then l else ⟨#[]⟩) (dt k (tuL d)) (if k = 9 then mn else 0) (if k = 9 then mx else 0) = 0 := by
    have h4 := hv
    unfold Val at h4
    rw [alL_cons, if_pos rfl] at h4
    exact alL_zero h4
  unfold checkE
  rw [dp_tu h2, if_neg (by omega), ha, if_neg (by decide), sizeF_tu, if_neg (by omega)]
theorem nuL_app (f g : Fo) : nuL (f.app g) = ((nuL f).1 || (nuL g).1, (nuL f).2 && (nuL g).2) := by
  induction f with
  | nil => simp [Fo.app, nuL]
  | cons k l d mn mx r _ ih => rw [Fo.app, nuL_cons, nuL_cons, ih]; simp [Bool.or_assoc, Bool.and_assoc]
theorem nuL_rev (f : Fo) : nuL (revF f) = nuL f := by
  induction f with
  | nil => rfl
  | cons k l d mn mx r _ ih => rw [revF, nuL_app, ih, nuL_cons, nuL_cons]; simp [nuL, Bool.or_comm, Bool.and_comm]
theorem nu1_tu (k : Int) (p : Bool × Bool) (mn : Int) : nu1 (kt k) p (if k = 9 then mn else 0) = nu1 k p mn := by
  unfold nu1 kt
  by_cases h2 : k = 2
  · subst h2; rfl
  by_cases h3 : k = 3
  · subst h3; rfl
  rw [if_neg h2, if_neg h3]
  by_cases h9 : k = 9
  · simp only [if_pos h9]
  · simp only [if_neg h9]
theorem nuL_tu (f : Fo) : nuL (tuL f) = nuL f := by
  induction f with
  | nil => rfl
  | cons k l d mn mx r ih1 ih2 =>
    rw [tuL_cons, nuL_cons, nuL_cons, ih2]
    have : nuL (dt k (tuL d)) = nuL d := by
      unfold dt
      split
      · rw [nuL_rev, ih1]
      · rw [ih1]
    unfold nuB
    rw [this, nu1_tu]
theorem labF_rev (f : Fo) (x : ByteArray) : x ∈ labF (revF f) ↔ x ∈ labF f := by
  induction f with
  | nil => rfl
  | cons k l d mn mx r _ ih => rw [revF, labF_app, List.mem_append, ih, labF_one, labF, List.mem_append]; exact Or.comm
theorem labF_tu (f : Fo) (x : ByteArray) : x ∈ labF (tuL f) ↔ x ∈ labF f := by
  induction f with
  | nil => rfl
  | cons k l d mn mx r ih1 ih2 =>
    rw [tuL_cons, labF, labF, List.mem_append, List.mem_append, ih2]
    have h23 : (kt k = 2 ∨ kt k = 3) = (k = 2 ∨ k = 3) := propext (kt_23 k)
    by_cases e : k = 2 ∨ k = 3
    · rw [if_pos (h23 ▸ e), if_pos e, if_pos e]
    · rw [if_neg (h23 ▸ e), if_neg e]
      have : x ∈ labF (dt k (tuL d)) ↔ x ∈ labF d := by
        unfold dt
        split
        · rw [labF_rev, ih1]
        · rw [ih1]
      rw [this]
theorem labF_len (f : Fo) : (labF f).length ≤ f.sz := by
  induction f with
  | nil => exact Nat.le_refl _
  | cons k l d mn mx r ih1 ih2 =>
    rw [labF, List.length_append, Fo.sz]
    split
    · simp only [List.length_singleton]; omega
    · omega
end Go.Proofs.YtpaehicfndkliaaGreatDoor.De
