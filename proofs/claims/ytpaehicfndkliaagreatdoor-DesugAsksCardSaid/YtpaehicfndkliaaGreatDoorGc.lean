import Derived.Test.YtpaehicfndkliaaGreatDoorDf
import Derived.Test.YtpaehicfndkliaaGreatDoorDt
import Derived.Test.YtpaehicfndkliaaGreatDoorDr
import Derived.Test.YtpaehicfndkliaaGreatDoorDh
import Derived.Test.YtpaehicfndkliaaGreatDoorDl

/- Plain facts: the bounds in a plain path. No condition. -/
namespace Go.Proofs.YtpaehicfndkliaaGreatDoor.De
open Go.RowKit Go.Lib Na Go.PN Pa

/-- The bounds in a plain path are nought. -/
theorem bd_zero {k : Int} {l : ByteArray} {d r : Fo} (hd : Bd d) (hr : Bd r) : Bd (.cons k l d 0 0 r) := ⟨by omega, by omega, hd, hr⟩
theorem bd_head {f : Fo} (h : Bd f) : Bd (headF f) := by
  cases f with
  | nil => trivial
  | cons => exact ⟨h.1, h.2.1, h.2.2.1, trivial⟩
theorem bd_row {K : Int} {f : Fo} (h : Bd f) : Bd (rowF K f) := by
  induction f with
  | nil => exact bd_zero trivial trivial
  | cons k l d mn mx r _ ih =>
    rw [rowF]
    split
    · exact ⟨h.1, h.2.1, h.2.2.1, trivial⟩
    · exact bd_zero (bd_app2.2 ⟨⟨h.1, h.2.1, h.2.2.1, trivial⟩, ih h.2.2.2⟩) trivial
theorem bd_rept {n : Nat} {f : Fo} (h : Bd f) : Bd (rept n f) := by
  induction n with
  | zero => trivial
  | succ n ih => exact bd_app2.2 ⟨h, ih⟩
theorem bd_tail {n : Nat} {f : Fo} (h : Bd f) : Bd (tailF n f) := by
  induction n with
  | zero => exact bd_zero (bd_app2.2 ⟨bd_zero trivial trivial, h⟩) trivial
  | succ n ih => exact bd_zero (bd_app2.2 ⟨bd_zero trivial trivial, bd_zero (bd_app2.2 ⟨h, ih⟩) trivial⟩) trivial
theorem bd_pl1 {k : Int} {l : ByteArray} {L : Fo} {mn mx : Int} (h : Bd L) : Bd (pl1 k l L mn mx) := by
  have hh := bd_head h
  unfold De.pl1
  repeat' split
  · exact bd_zero trivial trivial
  · exact bd_row h
  · exact bd_zero hh trivial
  · exact bd_zero (bd_app2.2 ⟨hh, bd_zero hh trivial⟩) trivial
  · exact bd_zero (bd_app2.2 ⟨bd_zero trivial trivial, hh⟩) trivial
  · refine bd_row (bd_app2.2 ⟨bd_rept hh, ?_⟩)
    split
    · exact bd_zero hh trivial
    · split
      · exact bd_tail hh
      · trivial
  · exact bd_zero trivial trivial
theorem bd_plL (f : Fo) : Bd (plL f) := by
  induction f with
  | nil => trivial
  | cons k l d mn mx r ih1 ih2 => exact bd_app2.2 ⟨bd_pl1 ih1, ih2⟩
end Go.Proofs.YtpaehicfndkliaaGreatDoor.De


/- Plain facts: what was made plainer is plain, has the same labels, the empty word just if the path has it. No condition. -/
namespace Go.Proofs.YtpaehicfndkliaaGreatDoor.De
open Go.RowKit Go.Lib Na Go.PN Pa

/-- The kinds and the numbers of kids are those of plain paths. -/
def kL : Fo → Bool
  | .nil => true
  | .cons k _ d _ _ r => (kindN k d.len && kL d) && kL r
theorem kL_app (f g : Fo) : kL (f.app g) = (kL f && kL g) := by
  induction f with
  | nil => simp [kL, Fo.app]
  | cons k l d mn mx r _ ih => rw [Fo.app, kL, kL, ih]; simp only [Bool.and_assoc]
theorem mayL_of {f : Fo} {at_ : Int} (h : kL f = true) (hd : at_ + dpt f ≤ 401) : mayL f at_ = true := by
  induction f generalizing at_ with
  | nil => rfl
  | cons k l d mn mx r ih1 ih2 =>
    rw [kL, Bool.and_eq_true, Bool.and_eq_true] at h
    rw [dpt] at hd
    have := dpt_ge d
    rw [mayL, h.1.1, ih1 h.1.2 (by omega), ih2 h.2 (by omega), decide_eq_true (by omega)]
    rfl
theorem kL_two {K : Int} {a b : Fo} (hK : K = 4 ∨ K = 5) (ha : kL a = true) (hb : kL b = true) (h1 : a.len = 1) (h2 : b.len = 1) : kL (twoF K a b) = true := by
  rw [kL, kL_app, ha, hb, Fo.app_len, h1, h2]
  rcases hK with rfl | rfl <;> rfl
theorem kL_star {a : Fo} (ha : kL a = true) (h1 : a.len = 1) : kL (starF a) = true := by
  rw [kL, ha, h1]; rfl
theorem kL_row {K : Int} {f : Fo} (hK : K = 4 ∨ K = 5) (h : kL f = true) : kL (rowF K f) = true := by
  induction f with
  | nil => rfl
  | cons k l d mn mx r _ ih =>
    rw [kL, Bool.and_eq_true] at h
    have h1 : kL (.cons k l d mn mx .nil) = true := by rw [kL, h.1]; rfl
    rw [rowF]
    split
    · exact h1
    · exact kL_two hK h1 (ih h.2) rfl (rowF_len _ _)
theorem kL_rept {n : Nat} {f : Fo} (h : kL f = true) : kL (rept n f) = true := by
  induction n with
  | zero => rfl
  | succ n ih => rw [rept, kL_app, h, ih]; rfl
theorem kL_tail {n : Nat} {f : Fo} (h : kL f = true) (h1 : f.len = 1) : kL (tailF n f) = true := by
  induction n with
  | zero => exact kL_two (Or.inr rfl) rfl h rfl h1
  | succ n ih => exact kL_two (Or.inr rfl) rfl (kL_two (Or.inl rfl) h ih h1 (tailF_len _ _)) rfl rfl
/-- How deep. -/
theorem dpt_two (K : Int) (a b : Fo) : dpt (twoF K a b) = max (dpt a) (dpt b) + 1 := by
  have := dpt_ge a
  rw [dpt, dpt_app, dpt]; omega
theorem dpt_star (a : Fo) : dpt (starF a) = dpt a + 1 := by
  have := dpt_ge a
  rw [dpt, dpt]; omega
theorem dpt_eps : dpt epsF = 1 := rfl
theorem dpt_one {f : Fo} (h : 1 ≤ f.len) : 1 ≤ dpt f := by
  cases f with
  | nil => simp [Fo.len] at h
  | cons k l d mn mx r => have := dpt_ge d; rw [dpt]; omega
theorem dpt_row {K : Int} {f : Fo} (h : 1 ≤ f.len) : dpt (rowF K f) + 1 ≤ dpt f + f.len := by
  induction f with
  | nil => simp [Fo.len] at h
  | cons k l d mn mx r _ ih =>
    have h0 := dpt_ge d
    have h1 := dpt_ge r
    rw [rowF]
    split
    · rename_i hr; rw [dpt, dpt, dpt, Fo.len, hr]; omega
    · rename_i hr
      have := ih (by omega)
      rw [dpt_two, dpt, dpt, dpt, Fo.len]; omega
theorem dpt_rept {n : Nat} {f : Fo} : dpt (rept n f) ≤ dpt f := by
  have := dpt_ge f
  induction n with
  | zero => exact this
  | succ n ih => rw [rept, dpt_app]; omega
theorem dpt_tail {n : Nat} {f : Fo} (h : 1 ≤ dpt f) : dpt (tailF n f) = 2 * n + dpt f + 1 := by
  induction n with
  | zero => rw [tailF, maybeF, dpt_two, dpt_eps]; omega
  | succ n ih => rw [tailF, maybeF, dpt_two, dpt_eps, dpt_two, ih]; omega
/-- The labels. -/
theorem labF_two {K : Int} (hK : K = 4 ∨ K = 5) (a b : Fo) : labF (twoF K a b) = labF a ++ labF b := by
  rw [labF_one, if_neg (by omega), labF_app]
theorem labF_star (a : Fo) : labF (starF a) = labF a := by
  rw [labF_one, if_neg (by omega)]
theorem labF_eps : labF epsF = [] := rfl
theorem labF_row {K : Int} (hK : K = 4 ∨ K = 5) (f : Fo) : labF (rowF K f) = labF f := by
  induction f with
  | nil => rfl
  | cons k l d mn mx r _ ih =>
    rw [rowF]
    split
    · rename_i hr; rw [nil_of hr]
    · rw [labF_two hK, ih, labF_one, labF]
theorem labF_rept (n : Nat) (f : Fo) : (labF (rept n f)).length = n * (labF f).length ∧ ∀ x, x ∈ labF (rept n f) ↔ 0 < n ∧ x ∈ labF f := by
  induction n with
  | zero => exact ⟨by simp [rept, labF], fun x => by simp [rept, labF]⟩
  | succ n ih =>
    rw [rept, labF_app]
    refine ⟨by rw [List.length_append, ih.1, Nat.succ_mul]; omega, fun x => ?_⟩
    rw [List.mem_append, ih.2 x]
    constructor
    · rintro (h | h)
      · exact ⟨Nat.succ_pos _, h⟩
      · exact ⟨Nat.succ_pos _, h.2⟩
    · exact fun h => Or.inl h.2
theorem labF_tail (n : Nat) (f : Fo) : (labF (tailF n f)).length = (n + 1) * (labF f).length ∧ ∀ x, x ∈ labF (tailF n f) ↔ x ∈ labF f := by
  induction n with
  | zero => rw [tailF, maybeF, labF_two (Or.inr rfl), labF_eps]; exact ⟨by simp, fun x => by simp⟩
  | succ n ih =>
    rw [tailF, maybeF, labF_two (Or.inr rfl), labF_eps, labF_two (Or.inl rfl)]
    refine ⟨by rw [List.nil_append, List.length_append, ih.1, Nat.succ_mul (n + 1)]; omega, fun x => ?_⟩
    rw [List.nil_append, List.mem_append, ih.2 x, or_self]
/-- The empty word. -/
theorem nuL_one (k : Int) (l : ByteArray) (d : Fo) (mn mx : Int) : nuL (.cons k l d mn mx .nil) = (nu1 k (nuL d) mn, nu1 k (nuL d) mn) := by
  rw [nuL, nuL]; simp
theorem nuL_two4 (a b : Fo) : nuL (twoF 4 a b) = ((nuL a).2 && (nuL b).2, (nuL a).2 && (nuL b).2) := by
  rw [nuL_one, nuL_app]; rfl
theorem nuL_two5 (a b : Fo) : nuL (twoF 5 a b) = ((nuL a).1 || (nuL b).1, (nuL a).1 || (nuL b).1) := by
  rw [nuL_one, nuL_app]; rfl
theorem nuL_star (a : Fo) : nuL (starF a) = (true, true) := by rw [nuL_one]; rfl
theorem nuL_eps : nuL epsF = (true, true) := rfl
theorem nuL_row4 (f : Fo) : nuL (rowF 4 f) = ((nuL f).2, (nuL f).2) := by
  induction f with
  | nil => rfl
  | cons k l d mn mx r _ ih =>
    rw [rowF]
    split
    · rename_i hr; rw [nil_of hr, nuL_one]
    · rw [nuL_two4, ih, nuL_one, nuL]
theorem nuL_row5 {f : Fo} (h : 1 ≤ f.len) : nuL (rowF 5 f) = ((nuL f).1, (nuL f).1) := by
  induction f with
  | nil => simp [Fo.len] at h
  | cons k l d mn mx r _ ih =>
    rw [rowF]
    split
    · rename_i hr; rw [nil_of hr, nuL_one]
    · rw [nuL_two5, ih (by omega), nuL_one, nuL]
theorem nuL_rept (n : Nat) (f : Fo) : (nuL (rept n f)).2 = (decide (n = 0) || (nuL f).2) := by
  induction n with
  | zero => rfl
  | succ n ih =>
    rw [rept, nuL_app, ih]
    cases (nuL f).2 <;> simp
theorem nuL_tail (n : Nat) (f : Fo) : nuL (tailF n f) = (true, true) := by
  cases n with
  | zero => rw [tailF, maybeF, nuL_two5, nuL_eps]; rfl
  | succ n => rw [tailF, maybeF, nuL_two5, nuL_eps]; rfl
end Go.Proofs.YtpaehicfndkliaaGreatDoor.De


/- Plain facts: what was made plainer, against what it was made of. No condition. -/
namespace Go.Proofs.YtpaehicfndkliaaGreatDoor.De
open Go.RowKit Go.Lib Na Go.PN Pa

/-- What is told of a row that was made plainer, L, of the row d. -/
structure Pf (d L : Fo) : Prop where
  len : L.len = d.len
  kl : kL L = true
  dp : dpt L + d.len ≤ 2 * smS d + 1
  lb : ((labF L).length : Int) ≤ smS d
  nu : nuL L = nuL d
  mem : ∀ x, x ∈ labF L ↔ x ∈ labF d
  sm : (d.len : Int) ≤ smS d
/-- What is told of one path. -/
structure Po1 (k : Int) (l : ByteArray) (d : Fo) (mn mx : Int) (x : Fo) : Prop where
  kl : kL x = true
  dp : dpt x ≤ 2 * sizeF k d mn mx
  lb : ((labF x).length : Int) ≤ sizeF k d mn mx
  nu : nuL x = nuL (.cons k l d mn mx .nil)
  mem : ∀ y, y ∈ labF x ↔ y ∈ labF (.cons k l d mn mx .nil)
  sm : 1 ≤ sizeF k d mn mx
theorem timesI_small {t n : Int} (h1 : 1 ≤ t) (h9 : t ≤ 9) (h0 : 0 ≤ n) (h60 : n ≤ 60) : timesI t n = t * n := by
  unfold timesI
  have : t = 1 ∨ t = 2 ∨ t = 3 ∨ t = 4 ∨ t = 5 ∨ t = 6 ∨ t = 7 ∨ t = 8 ∨ t = 9 := by omega
  rcases this with rfl | rfl | rfl | rfl | rfl | rfl | rfl | rfl | rfl
  all_goals
    rw [if_neg (by omega)]
    congr 1
theorem mul_ge {a b : Int} (ha : 1 ≤ a) (hb : 1 ≤ b) : a + b ≤ a * b + 1 := by
  have h := Int.mul_nonneg (show 0 ≤ a - 1 by omega) (show 0 ≤ b - 1 by omega)
  have h2 : (a - 1) * (b - 1) = a * b - a - b + 1 := by rw [Int.sub_mul, Int.mul_sub]; omega
  omega
theorem lab_le {c : Nat} {m n : Nat} {N : Int} (h : c = m * n) (hn : (n : Int) ≤ N) : (c : Int) ≤ m * N := by
  subst h
  rw [Int.natCast_mul]
  exact Int.mul_le_mul_of_nonneg_left hn (by omega)
theorem rep_facts {x : Fo} (hx : x.len = 1) (hk : kL x = true) (hnu : (nuL x).2 = (nuL x).1) (m : Nat) (mx N : Int) (h8 : m ≤ 8) (hm : mx = -1 ∨ ((m : Int) ≤ mx ∧ 1 ≤ mx ∧ mx ≤ 8)) (hN : 1 ≤ N) (hN2 : N ≤ 60) (hl : ((labF x).length : Int) ≤ N) (hd : dpt x ≤ 2 * N) :
    kL (repF x m mx) = true ∧ dpt (repF x m mx) ≤ 2 * (timesI (turnsI m mx) N + 3) ∧ ((labF (repF x m mx)).length : Int) ≤ timesI (turnsI m mx) N + 3 ∧ nuL (repF x m mx) = (decide ((m : Int) = 0) || (nuL x).1, decide ((m : Int) = 0) || (nuL x).1) ∧ ∀ y, y ∈ labF (repF x m mx) ↔ y ∈ labF x := by
  have hd1 := dpt_one (f := x) (by omega)
  have hr := labF_rept m x
  have hrd := dpt_rept (n := m) (f := x)
  have hrk := kL_rept (n := m) hk
  have hrn := nuL_rept m x
  have hrl := rept_len m x
  rw [hx, Nat.mul_one] at hrl
  have hdm : decide ((m : Int) = 0) = decide (m = 0) := by by_cases h : m = 0 <;> simp [h]
  rw [hdm]
  unfold repF repL
  rw [show (m : Int).toNat = m from rfl]
  rcases hm with rfl | ⟨h1, h2, h3⟩
  · rw [if_pos rfl]
    have ht : turnsI m (-1) = m + 1 := by unfold turnsI; rw [if_pos rfl]; omega
    rw [ht, timesI_small (by omega) (by omega) (by omega) hN2]
    have h5 := mul_ge (a := (m : Int) + 1) (b := N) (by omega) hN
    have h6 := dpt_row (K := 4) (f := (rept m x).app (starF x)) (by rw [Fo.app_len]; simp only [Fo.len]; omega)
    rw [Fo.app_len, hrl, dpt_app, dpt_star] at h6
    simp only [Fo.len] at h6
    refine ⟨kL_row (Or.inl rfl) (by rw [kL_app, hrk, kL_star hk hx]; rfl), by omega, ?_, ?_, fun y => ?_⟩
    · rw [labF_row (Or.inl rfl), labF_app, labF_star, List.length_append]
      have := lab_le (c := (labF (rept m x)).length + (labF x).length) (m := m + 1) (n := (labF x).length) (N := N) (by rw [hr.1, Nat.succ_mul]) hl
      rw [show ((m + 1 : Nat) : Int) = (m : Int) + 1 by omega] at this
      exact Int.le_trans this (by omega)
    · rw [nuL_row4, nuL_app, hrn, nuL_star, hnu]
      simp
    · rw [labF_row (Or.inl rfl), labF_app, labF_star, List.mem_append, hr.2]
      exact ⟨fun h => h.elim (fun h => h.2) id, Or.inr⟩
  · rw [if_neg (by omega)]
    have ht : turnsI m mx = mx := by unfold turnsI; rw [if_neg (by omega)]
    rw [ht, timesI_small (by omega) (by omega) (by omega) hN2]
    have h5 := mul_ge (a := mx) (b := N) (by omega) hN
    by_cases h4 : (m : Int) < mx
    · rw [if_pos h4]
      obtain ⟨t, rfl⟩ : ∃ t : Nat, mx = (m : Int) + 1 + t := ⟨(mx - m - 1).toNat, by omega⟩
      rw [show ((m : Int) + 1 + t - m - 1).toNat = t by omega]
      have htl := labF_tail t x
      have h6 := dpt_row (K := 4) (f := (rept m x).app (tailF t x)) (by rw [Fo.app_len, tailF_len]; omega)
      rw [Fo.app_len, hrl, dpt_app, dpt_tail hd1, tailF_len] at h6
      refine ⟨kL_row (Or.inl rfl) (by rw [kL_app, hrk, kL_tail hk hx]; rfl), by omega, ?_, ?_, fun y => ?_⟩
      · rw [labF_row (Or.inl rfl), labF_app, List.length_append]
        have := lab_le (c := (labF (rept m x)).length + (labF (tailF t x)).length) (m := m + (t + 1)) (n := (labF x).length) (N := N) (by rw [hr.1, htl.1, ← Nat.add_mul]) hl
        have e : ((m + (t + 1) : Nat) : Int) = (m : Int) + 1 + t := by omega
        rw [e] at this
        exact Int.le_trans this (by omega)
      · rw [nuL_row4, nuL_app, hrn, nuL_tail, hnu]
        simp
      · rw [labF_row (Or.inl rfl), labF_app, List.mem_append, hr.2, htl.2]
        exact ⟨fun h => h.elim (fun h => h.2) id, Or.inr⟩
    · have h7 : mx = m := by omega
      subst h7
      rw [if_neg h4, Fo.app_nil]
      have h6 := dpt_row (K := 4) (f := rept m x) (by omega)
      rw [hrl] at h6
      refine ⟨kL_row (Or.inl rfl) hrk, by omega, ?_, ?_, fun y => ?_⟩
      · rw [labF_row (Or.inl rfl)]
        have := lab_le (c := (labF (rept m x)).length) (m := m) (n := (labF x).length) (N := N) hr.1 hl
        exact Int.le_trans this (by omega)
      · rw [nuL_row4, hrn, hnu]
      · rw [labF_row (Or.inl rfl), hr.2]
        exact ⟨fun h => h.2, fun h => ⟨by omega, h⟩⟩
theorem nuL_len1 {f : Fo} (h : f.len = 1) : (nuL f).2 = (nuL f).1 := by
  obtain ⟨k, l, g, mn, mx, rfl⟩ := one_of h
  rw [nuL_one]
theorem headF_one {f : Fo} (h : f.len = 1) : headF f = f := by
  obtain ⟨k, l, g, mn, mx, rfl⟩ := one_of h
  rfl
theorem smS_szL {d : Fo} (h : szL d 0 ≤ 60) : szL d 0 = smS d := by
  have := szL_sum d 0 (by decide)
  omega
theorem pl1_facts {k : Int} {l : ByteArray} {d : Fo} {mn mx : Int} {L : Fo} (h : oneE k l d mn mx = 0) (hs : sizeF k d mn mx ≤ 60) (P : Pf d L) : Po1 k l d mn mx (pl1 k l L mn mx) := by
  have hg := sizeF_gt h hs
  have hz := smS_szL (d := d) (by omega)
  have hge := smS_ge d
  obtain ⟨hk, h2, h3, h4, h5, h6⟩ := one_zero h
  obtain ⟨plen, pkl, pdp, plb, pnu, pmem, psm⟩ := P
  have hS : sizeF k d mn mx = sizeI k (smS d) mn mx := by unfold sizeF; rw [hz]
  have hN := labF_one k l d mn mx
  have hU := nuL_one k l d mn mx
  have hs1 : 1 ≤ sizeF k d mn mx := by have := szL_rng d 0 (by decide); omega
  rcases (show k = 1 ∨ k = 2 ∨ k = 3 ∨ k = 4 ∨ k = 5 ∨ k = 6 ∨ k = 7 ∨ k = 8 ∨ k = 9 by omega) with rfl | rfl | rfl | rfl | rfl | rfl | rfl | rfl | rfl
  · have e : pl1 1 l L mn mx = epsF := rfl
    obtain rfl := nil_of (h2 (Or.inl rfl))
    exact ⟨by rw [e]; rfl, by rw [e, dpt_eps]; omega, by rw [e, labF_eps]; simp only [List.length_nil]; omega, by rw [e, hU]; rfl, fun y => by rw [e, hN]; exact Iff.rfl, hs1⟩
  · have e : pl1 2 l L mn mx = .cons 2 l .nil 0 0 .nil := rfl
    obtain rfl := nil_of (h2 (Or.inr (Or.inl rfl)))
    exact ⟨by rw [e]; rfl, by rw [e]; show (1 : Int) ≤ _; omega, by rw [e, labF_one]; show ((1 : Nat) : Int) ≤ _; omega, by rw [e, hU]; rfl, fun y => by rw [e, hN, labF_one], hs1⟩
  · have e : pl1 3 l L mn mx = .cons 3 l .nil 0 0 .nil := rfl
    obtain rfl := nil_of (h2 (Or.inr (Or.inr rfl)))
    exact ⟨by rw [e]; rfl, by rw [e]; show (1 : Int) ≤ _; omega, by rw [e, labF_one]; show ((1 : Nat) : Int) ≤ _; omega, by rw [e, hU]; rfl, fun y => by rw [e, hN, labF_one], hs1⟩
  · have e : pl1 4 l L mn mx = rowF 4 L := rfl
    have e2 : sizeI 4 (smS d) mn mx = min (smS d + 1) 1099511627776 := rfl
    have h7 := h3 (Or.inl rfl)
    have h8 := dpt_row (K := 4) (f := L) (by omega)
    rw [e2] at hS
    exact ⟨by rw [e]; exact kL_row (Or.inl rfl) pkl, by rw [e]; omega, by rw [e, labF_row (Or.inl rfl)]; omega, by rw [e, hU, nuL_row4, pnu]; rfl, fun y => by rw [e, hN, labF_row (Or.inl rfl), pmem, if_neg (by decide)], hs1⟩
  · have e : pl1 5 l L mn mx = rowF 5 L := rfl
    have e2 : sizeI 5 (smS d) mn mx = min (smS d + 1) 1099511627776 := rfl
    have h7 := h3 (Or.inr rfl)
    have h8 := dpt_row (K := 5) (f := L) (by omega)
    rw [e2] at hS
    exact ⟨by rw [e]; exact kL_row (Or.inr rfl) pkl, by rw [e]; omega, by rw [e, labF_row (Or.inr rfl)]; omega, by rw [e, hU, nuL_row5 (by omega), pnu]; rfl, fun y => by rw [e, hN, labF_row (Or.inr rfl), pmem, if_neg (by decide)], hs1⟩
  · have h7 := h4 (by decide)
    have hL : L.len = 1 := by omega
    have e : pl1 6 l L mn mx = starF L := by show starF (headF L) = _; rw [headF_one hL]
    have e2 : sizeI 6 (smS d) mn mx = min (smS d + 1) 1099511627776 := rfl
    rw [e2] at hS
    exact ⟨by rw [e]; exact kL_star pkl hL, by rw [e, dpt_star]; omega, by rw [e, labF_star]; omega, by rw [e, hU, nuL_star]; rfl, fun y => by rw [e, hN, labF_star, pmem, if_neg (by decide)], hs1⟩
  · have h7 := h4 (by decide)
    have hL : L.len = 1 := by omega
    have e : pl1 7 l L mn mx = twoF 4 L (starF L) := by show twoF 4 (headF L) (starF (headF L)) = _; rw [headF_one hL]
    have e2 : sizeI 7 (smS d) mn mx = min (2 * smS d + 2) 1099511627776 := rfl
    rw [e2] at hS
    exact ⟨by rw [e]; exact kL_two (Or.inl rfl) pkl (kL_star pkl hL) hL rfl, by rw [e, dpt_two, dpt_star]; omega, by rw [e, labF_two (Or.inl rfl), labF_star, List.length_append]; omega, by rw [e, hU, nuL_two4, nuL_star, nuL_len1 hL, pnu]; simp [nu1], fun y => by rw [e, hN, labF_two (Or.inl rfl), labF_star, List.mem_append, or_self, pmem, if_neg (by decide)], hs1⟩
  · have h7 := h4 (by decide)
    have hL : L.len = 1 := by omega
    have e : pl1 8 l L mn mx = twoF 5 epsF L := by show twoF 5 epsF (headF L) = _; rw [headF_one hL]
    have e2 : sizeI 8 (smS d) mn mx = min (smS d + 2) 1099511627776 := rfl
    rw [e2] at hS
    have h9 := dpt_one (f := L) (by omega)
    exact ⟨by rw [e]; exact kL_two (Or.inr rfl) rfl pkl rfl hL, by rw [e, dpt_two, dpt_eps]; omega, by rw [e, labF_two (Or.inr rfl), labF_eps, List.nil_append]; omega, by rw [e, hU, nuL_two5, nuL_eps]; rfl, fun y => by rw [e, hN, labF_two (Or.inr rfl), labF_eps, List.nil_append, pmem, if_neg (by decide)], hs1⟩
  · have h7 := h4 (by decide)
    have hL : L.len = 1 := by omega
    have e : pl1 9 l L mn mx = repF L mn mx := by show repF (headF L) mn mx = _; rw [headF_one hL]
    have e2 : sizeI 9 (smS d) mn mx = min (timesI (turnsI mn mx) (smS d) + 3) 1099511627776 := rfl
    obtain ⟨a1, a2, a3⟩ := h6 rfl
    obtain ⟨m, rfl⟩ := Int.eq_ofNat_of_zero_le a1
    have hr := rep_facts hL pkl (nuL_len1 hL) m mx (smS d) (by omega) a3 (by omega) (by have := szL_rng d 0 (by decide); omega) plb (by omega)
    obtain ⟨r1, r2, r3, r4, r5⟩ := hr
    rw [e2] at hS
    exact ⟨by rw [e]; exact r1, by rw [e]; omega, by rw [e]; omega, by rw [e, hU, r4, pnu]; rfl, fun y => by rw [e, hN, r5, pmem, if_neg (by decide)], hs1⟩
theorem plL_facts {f : Fo} (h : Val f) (hs : smS f ≤ 60) : Pf f (plL f) := by
  induction f with
  | nil => exact ⟨rfl, rfl, by show (0 : Int) + 0 ≤ 2 * 0 + 1; omega, Int.le_refl _, rfl, fun _ => Iff.rfl, Int.le_refl _⟩
  | cons k l d mn mx r ih1 ih2 =>
    obtain ⟨h1, h2, h3⟩ := h.cons
    rw [smS] at hs
    have hr := smS_ge r
    have hsd := sizeF_gt h1 (by omega)
    have hrg := sizeF_rng k d mn mx
    have hz := smS_szL (d := d) (by omega)
    have P2 := ih2 h3 (by omega)
    have P := pl1_facts h1 (by omega) (ih1 h2 (by omega))
    have hd := P.dp
    have hd2 := P2.dp
    have hlb := P.lb
    have hlb2 := P2.lb
    have hsm := P.sm
    have hsm2 := P2.sm
    rw [plL]
    refine ⟨by rw [Fo.app_len, pl1_len, P2.len, Fo.len]; omega, by rw [kL_app, P.kl, P2.kl]; rfl, ?_, ?_, ?_, fun y => ?_, ?_⟩
    · rw [dpt_app, smS, Fo.len]; omega
    · rw [labF_app, List.length_append, smS]; omega
    · rw [nuL_app, P.nu, P2.nu, nuL_one, nuL]
    · rw [labF_app, List.mem_append, P.mem, P2.mem, labF_one, labF, List.mem_append]
    · rw [smS, Fo.len]; omega
/-- A path that may be, made plainer. -/
theorem plain_facts {k : Int} {l : ByteArray} {d : Fo} {mn mx : Int} (h : checkE k l d mn mx = 0) : Po1 k l d mn mx (pl1 k l (plL d) mn mx) ∧ sizeF k d mn mx ≤ 60 := by
  obtain ⟨hv, hd, hs, hz⟩ := check_zero h
  have hc := hv.cons
  have h1 := sizeF_gt hc.1 hs
  have h2 := smS_szL (d := d) (by omega)
  exact ⟨pl1_facts hc.1 hs (plL_facts hc.2.1 (by omega)), hs⟩
structure PlainP2 (k : Int) (l : ByteArray) (d : Fo) (mn mx : Int) (k2 : Int) (l2 : ByteArray) (d2 : Fo) (mn2 mx2 : Int) : Prop where
  is : isB k2 l2 d2 mn2 mx2 = true
  nu : NullB k2 l2 d2 mn2 mx2 = NullB k l d mn mx
  la : labR k2 l2 d2 mn2 mx2 = labR k l d mn mx
  l0 : (labF (.cons k l d mn mx .nil)).length ≤ 1000000
  l1 : (labF (.cons k2 l2 d2 mn2 mx2 .nil)).length ≤ 1000000
  ln : (labR k l d mn mx).length ≤ 1000000
  bd : Bd (.cons k2 l2 d2 mn2 mx2 .nil)
theorem plain_two {k : Int} {l : ByteArray} {d : Fo} {mn mx : Int} {k2 : Int} {l2 : ByteArray} {d2 : Fo} {mn2 mx2 : Int} (h : checkE k l d mn mx = 0) (he : Fo.cons k2 l2 d2 mn2 mx2 .nil = (plainR k l d mn mx).1) : PlainP2 k l d mn mx k2 l2 d2 mn2 mx2 := by
  have he2 : Fo.cons k2 l2 d2 mn2 mx2 .nil = pl1 k l (plL d) mn mx := by
    rw [he]; unfold plainR; rw [if_pos h]
  obtain ⟨P, hs⟩ := plain_facts h
  obtain ⟨hv, _, _, hz⟩ := check_zero h
  have hk : knownB k l d mn mx = true := by unfold knownB; rw [decide_eq_true h]; rfl
  have hi : isB k2 l2 d2 mn2 mx2 = true := by
    unfold isB
    rw [he2]
    have := P.dp
    exact mayL_of P.kl (by omega)
  have hk2 : knownB k2 l2 d2 mn2 mx2 = true := by unfold knownB; rw [hi, Bool.or_true]
  have hl0 : (labF (.cons k l d mn mx .nil)).length ≤ 60 := by have := labF_len (.cons k l d mn mx .nil); simp only [Fo.sz] at this; omega
  refine ⟨hi, ?_, ?_, by omega, ?_, ?_, ?_⟩
  · unfold NullB nuB
    rw [hk, hk2]
    have hn := P.nu
    rw [← he2, nuL_one, nuL_one] at hn
    rw [(Prod.mk.inj hn).1]
  · unfold labR
    rw [if_pos hk, if_pos hk2]
    refine lbl_eq fun z => ?_
    rw [List.mem_map, List.mem_map, he2]
    constructor
    · rintro ⟨x, hx, e⟩; exact ⟨x, (P.mem x).1 hx, e⟩
    · rintro ⟨x, hx, e⟩; exact ⟨x, (P.mem x).2 hx, e⟩
  · rw [he2]; have := P.lb; omega
  · unfold labR
    rw [if_pos hk]
    have := lbl_len ((labF (.cons k l d mn mx .nil)).map bl)
    rw [List.length_map] at this
    omega
  · rw [he2]; exact bd_pl1 (bd_plL _)
end Go.Proofs.YtpaehicfndkliaaGreatDoor.De
