
/- Plain facts: which paths may be; paths read (what the reader of paths computes). No condition. -/
import Derived.Test.YtpaehicfndkliaaGreatDoorPt
import Derived.Test.YtpaehicfndkliaaGreatDoorPR
namespace Go.Proofs.YtpaehicfndkliaaGreatDoor.Pa
open Go.RowKit Go.Lib Na Go.PN

theorem alL_zero {f : Fo} {e : Int} (h : alL f e = 0) : e = 0 := by
  by_cases he : e = 0
  · exact he
  · rw [alL_ne f e he] at h; exact absurd h he
/-- A row all of whose paths may be, but for how great they are. -/
def Val (f : Fo) : Prop := alL f 0 = 0
theorem Val.cons {k : Int} {l : ByteArray} {d : Fo} {mn mx : Int} {r : Fo} (h : Val (.cons k l d mn mx r)) : oneE k l d mn mx = 0 ∧ Val d ∧ Val r := by
  unfold Val at h
  rw [alL_cons, if_pos rfl] at h
  have h1 := alL_zero h
  rw [h1] at h
  have h2 : alL d (oneE k l d mn mx) = 0 := h1
  have h3 := alL_zero h2
  rw [h3] at h2
  exact ⟨h3, h2, h⟩
theorem Val.mk {k : Int} {l : ByteArray} {d : Fo} {mn mx : Int} {r : Fo} (h : oneE k l d mn mx = 0) (hd : Val d) (hr : Val r) : Val (.cons k l d mn mx r) := by
  unfold Val
  rw [alL_cons, if_pos rfl]
  unfold allE
  rw [h, show alL d 0 = 0 from hd]
  exact hr
/-- What is known of a path that may be, but for its kids. -/
theorem one_zero {k : Int} {l : ByteArray} {d : Fo} {mn mx : Int} (h : oneE k l d mn mx = 0) :
    (1 ≤ k ∧ k ≤ 9) ∧ (k = 1 ∨ k = 2 ∨ k = 3 → d.len = 0) ∧ (k = 4 ∨ k = 5 → 2 ≤ d.len ∧ noneK k d = true) ∧ (6 ≤ k → d.len = 1) ∧ (k = 2 ∨ k = 3 → 0 < l.size ∧ l.size ≤ 20) ∧
    (k = 9 → 0 ≤ mn ∧ mn ≤ 8 ∧ (mx = -1 ∨ (mn ≤ mx ∧ 1 ≤ mx ∧ mx ≤ 8))) := by
  unfold oneE at h
  split at h
  · cases h
  · rename_i h0
    rw [Bool.or_eq_true, Bool.or_eq_true, not_or, not_or, decide_eq_true_eq, decide_eq_true_eq] at h0
    obtain ⟨⟨h1, h2⟩, h3⟩ := h0
    unfold leastI at h2
    unfold mostI at h3
    have hk : 1 ≤ k ∧ k ≤ 9 := by
      unfold kindB at h1
      simpa using h1
    split at h
    · cases h
    · rename_i h4
      simp only [Bool.and_eq_true, Bool.or_eq_true, beq_iff_eq, Bool.not_eq_true', not_and, Bool.not_eq_false] at h4
      refine ⟨hk, fun e => ?_, fun e => ⟨?_, ?_⟩, fun e => ?_, fun e => ?_, fun e => ?_⟩
      · rw [if_pos e] at h3; omega
      · rw [if_neg (by omega), if_pos e] at h2; omega
      · exact h4 e
      · rw [if_neg (by omega), if_neg (by omega), if_pos (by omega)] at h2 h3; omega
      · have e2 : (k == 2 || k == 3) = true := by rcases e with rfl | rfl <;> rfl
        rw [if_pos e2] at h
        split at h
        · rename_i h5
          unfold namedB at h5
          simpa using h5
        · cases h
      · subst e
        rw [if_neg (by decide), if_pos (by decide)] at h
        split at h
        · cases h
        · rename_i h5
          unfold repB at h5
          simp only [Bool.or_eq_true, Bool.and_eq_true, decide_eq_true_eq, Bool.not_eq_true', not_or, not_and, beq_eq_false_iff_ne] at h5
          obtain ⟨⟨a, b⟩, c⟩ := h5
          by_cases e : mx = -1
          · exact ⟨by omega, by omega, Or.inl e⟩
          · have := c e; exact ⟨by omega, by omega, Or.inr ⟨by omega, by omega, by omega⟩⟩
theorem Val.vd {f : Fo} (h : Val f) : Vd f := by
  induction f with
  | nil => trivial
  | cons k l d mn mx r ih1 ih2 =>
    obtain ⟨h1, h2, h3⟩ := h.cons
    have := (one_zero h1).2.2.2.2.2
    exact ⟨fun e => by have := this e; omega, ih1 h2, ih2 h3⟩
theorem szL_ge (f : Fo) (n : Int) (h : 0 ≤ n ∧ n ≤ 1099511627776) : n ≤ szL f n := by
  induction f generalizing n with
  | nil => exact Int.le_refl _
  | cons k l d mn mx r ih1 ih2 =>
    rw [szL_cons]
    have h1 := sizeF_rng k d mn mx
    exact Int.le_trans (by omega) (ih2 _ (by omega))
theorem sizeF_gt {k : Int} {l : ByteArray} {d : Fo} {mn mx : Int} (h : oneE k l d mn mx = 0) (hs : sizeF k d mn mx ≤ 60) : szL d 0 + 1 ≤ sizeF k d mn mx := by
  obtain ⟨h1, h2, h3, h4, h5, h6⟩ := one_zero h
  have hr := szL_rng d 0 (by decide)
  have h0 : k = 1 ∨ k = 2 ∨ k = 3 → szL d 0 = 0 := by
    intro e
    have := h2 e
    cases d with
    | nil => rfl
    | cons => simp [Fo.len] at this
  unfold sizeF at *
  have ht : k = 9 → szL d 0 ≤ timesI (turnsI mn mx) (szL d 0) := by
    intro e
    have h7 := h6 e
    have h8 : 1 ≤ turnsI mn mx := by
      unfold turnsI
      split <;> omega
    generalize turnsI mn mx = t at *
    unfold timesI
    split
    · omega
    · rw [show max t 0 = t from by omega]
      have := Int.mul_le_mul_of_nonneg_right h8 hr.1
      omega
  generalize szL d 0 = z at *
  unfold sizeI at hs ⊢
  split
  · have := h0 (by assumption); omega
  · rename_i hne
    rw [if_neg hne] at hs
    revert hs
    repeat' split
    all_goals (try (have := ht (by assumption)))
    all_goals omega
/-- What a path weighs that is not too great. -/
theorem wt_le {f : Fo} (h : Val f) (n : Int) (hn : 0 ≤ n) (hs : szL f n ≤ 60) (hn2 : n ≤ 1099511627776) : 120 * n + (f.wt : Int) ≤ 120 * szL f n ∧ n + (f.sz : Int) ≤ szL f n := by
  induction f generalizing n with
  | nil => simp [Fo.wt, szL, Fo.sz]
  | cons k l d mn mx r ih1 ih2 =>
    obtain ⟨h1, h2, h3⟩ := h.cons
    rw [szL_cons] at hs ⊢
    have hr := sizeF_rng k d mn mx
    have hge := szL_ge r (min (n + sizeF k d mn mx) 1099511627776) (by omega)
    have h4 : min (n + sizeF k d mn mx) 1099511627776 = n + sizeF k d mn mx := by omega
    rw [h4] at hs hge ⊢
    have h5 := sizeF_gt h1 (by omega)
    have h6 := ih1 h2 0 (by decide) (by omega) (by decide)
    have h7 := ih2 h3 (n + sizeF k d mn mx) (by omega) hs (by omega)
    have h8 := (one_zero h1).2.2.2.2.1
    rw [Fo.wt, Fo.sz]
    have h9 : (if k = 2 ∨ k = 3 then 3 * l.size else 0) ≤ 60 := by
      split
      · have := h8 (by assumption); omega
      · omega
    omega
/-- What is known of a path that may be. -/
theorem check_zero {k : Int} {l : ByteArray} {d : Fo} {mn mx : Int} (h : checkE k l d mn mx = 0) : Val (.cons k l d mn mx .nil) ∧ dp d 1 ≤ 20 ∧ sizeF k d mn mx ≤ 60 ∧ (Fo.cons k l d mn mx .nil).wt ≤ 7200 ∧ d.sz < 60 := by
  unfold checkE at h
  split at h
  · cases h
  · split at h
    · rename_i h1; exact absurd h h1
    · rename_i h0 h1
      have h1 : allE k l d mn mx = 0 := by omega
      split at h
      · cases h
      · rename_i h2
        have hv : Val (.cons k l d mn mx .nil) := by
          unfold Val
          rw [alL_cons, if_pos rfl, h1]
          rfl
        have hr := sizeF_rng k d mn mx
        have hz : szL (.cons k l d mn mx .nil) 0 = sizeF k d mn mx := by
          rw [szL_cons]
          show min (0 + sizeF k d mn mx) 1099511627776 = _
          omega
        have := wt_le hv 0 (by decide) (by omega) (by decide)
        rw [hz] at this
        refine ⟨hv, by omega, by omega, by omega, ?_⟩
        have h3 := this.2
        rw [Fo.sz, Fo.sz] at h3
        omega
end Go.Proofs.YtpaehicfndkliaaGreatDoor.Pa
