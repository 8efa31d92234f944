/- What the reader computes (plain): what is left is an end of the text; the numbers are the machine's. No condition. -/
import Derived.Test.YtpaehicfndkliaaGreatDoorQl
namespace Go.Proofs.YtpaehicfndkliaaGreatDoor.Pa
open Go.RowKit Go.Lib Na Go.PN

def Suf (f : Rd) : Prop := ∀ t p u, f t = some (p, u) → ∃ q, t = q ++ u
def BdR (f : Rd) : Prop := ∀ t p u, f t = some (p, u) → Bd p
theorem nameM {k : Int} {t : List UInt8} {p : Fo} {u : List UInt8} (h : (nameR t).map (fun x => (one1 k x.1 .nil 0 0, x.2)) = some (p, u)) : ∃ l, nameR t = some (l, u) ∧ p = one1 k l .nil 0 0 := by
  cases hn : nameR t with
  | none => rw [hn] at h; cases h
  | some r =>
    rw [hn] at h
    simp only [Option.map_some, Option.some.injEq, Prod.mk.injEq] at h
    exact ⟨r.1, by rw [← h.2], h.1.symm⟩
theorem Bd.one {k : Int} {l : List UInt8} {f : Fo} (h : Bd f) : Bd (one1 k l f 0 0) := ⟨by omega, by omega, h, trivial⟩
theorem Bd.mk {f g : Fo} (h : Bd f) (h2 : Bd g) : Bd (f.app g) := by
  induction f with
  | nil => exact h2
  | cons k l d mn mx r _ ih => exact ⟨h.1, h.2.1, h.2.2.1, ih h.2.2.2⟩
theorem Suf.atom {alt : Rd} (h : Suf alt) : Suf (atomR alt) := by
  intro t p u e
  cases t with
  | nil => cases e
  | cons c t =>
    unfold atomR at e
    simp only at e
    split at e
    · obtain ⟨l, h1, _⟩ := nameM e
      obtain ⟨q, hq, _⟩ := nameR_suf t _ h1
      exact ⟨c :: q, by rw [hq]; rfl⟩
    · split at e
      · split at e
        · rename_i h41
          cases t with
          | nil => cases h41
          | cons b t =>
            injection e with e
            injection e with _ e
            simp only [List.tail_cons] at e
            exact ⟨[c, b], by rw [← e]; rfl⟩
        · cases ha : alt t with
          | none => rw [ha] at e; cases e
          | some r =>
            obtain ⟨p1, v⟩ := r
            obtain ⟨q, hq⟩ := h t p1 v ha
            rw [ha] at e
            simp only at e
            split at e
            · cases v with
              | nil => rename_i h41; cases h41
              | cons b v =>
                injection e with e
                injection e with _ e
                simp only [List.tail_cons] at e
                exact ⟨c :: q ++ [b], by rw [hq, ← e]; simp⟩
            · cases e
      · obtain ⟨l, h1, _⟩ := nameM e
        obtain ⟨q, hq, _⟩ := nameR_suf (c :: t) _ h1
        exact ⟨q, hq⟩
theorem BdR.atom {alt : Rd} (h : BdR alt) : BdR (atomR alt) := by
  intro t p u e
  cases t with
  | nil => cases e
  | cons c t =>
    unfold atomR at e
    simp only at e
    split at e
    · obtain ⟨l, _, rfl⟩ := nameM e
      exact Bd.one trivial
    · split at e
      · split at e
        · injection e with e
          injection e with e _
          rw [← e]
          exact Bd.one trivial
        · cases ha : alt t with
          | none => rw [ha] at e; cases e
          | some r =>
            obtain ⟨p1, v⟩ := r
            have hb := h t p1 v ha
            rw [ha] at e
            simp only at e
            split at e
            · injection e with e
              injection e with e _
              rw [← e]; exact hb
            · cases e
      · obtain ⟨l, _, rfl⟩ := nameM e
        exact Bd.one trivial
theorem repR_bd {p q : Fo} {t v : List UInt8} (h : repR NP p t = some (q, v)) (hb : Bd p) : Bd q := by
  unfold repR at h
  have e1 : NP.mn t = some (numR t) := rfl
  rw [e1] at h
  have r1 : -9223372036854775808 ≤ (numR t).1 ∧ (numR t).1 ≤ 9223372036854775807 := numV_rng _
  obtain ⟨m, u, hn⟩ : ∃ m u, numR t = (m, u) := ⟨_, _, rfl⟩
  rw [hn] at h r1
  simp only at h
  split at h
  · have r2 : -9223372036854775808 ≤ (numR u.tail).1 ∧ (numR u.tail).1 ≤ 9223372036854775807 := numV_rng _
    have e2 : NP.mx u.tail = some (numR u.tail) := rfl
    rw [e2] at h
    obtain ⟨x, u3, hn2⟩ : ∃ m u3, numR u.tail = (m, u3) := ⟨_, _, rfl⟩
    rw [hn2] at h r2
    simp only at h
    split at h
    · injection h with h
      injection h with h _
      rw [← h]
      exact ⟨r1, r2, hb, trivial⟩
    · cases h
  · cases h
theorem postL_both (n : Nat) : ∀ (p : Fo) (t : List UInt8) (q : Fo) (u : List UInt8), postL NP n p t = some (q, u) → (∃ r, t = r ++ u) ∧ (Bd p → Bd q) := by
  induction n with
  | zero => intro p t q u h; injection h with h; injection h with h1 h2; exact ⟨⟨[], h2⟩, fun h => h1 ▸ h⟩
  | succ n ih =>
    intro p t q u h
    cases t with
    | nil => injection h with h; injection h with h1 h2; exact ⟨⟨[], h2⟩, fun h => h1 ▸ h⟩
    | cons c t =>
      have step : ∀ k, postL NP n (one1 k [] p 0 0) t = some (q, u) → (∃ r, c :: t = r ++ u) ∧ (Bd p → Bd q) := by
        intro k h
        obtain ⟨⟨r, hr⟩, hb⟩ := ih _ _ _ _ h
        exact ⟨⟨c :: r, by rw [hr]; rfl⟩, fun h => hb (Bd.one h)⟩
      rw [postL] at h
      split at h
      · exact step 6 h
      · split at h
        · exact step 7 h
        · split at h
          · exact step 8 h
          · split at h
            · cases hr : repR NP p t with
              | none => rw [hr] at h; cases h
              | some x =>
                obtain ⟨q1, v⟩ := x
                rw [hr] at h
                obtain ⟨⟨r, hr2⟩, hb⟩ := ih _ _ _ _ h
                obtain ⟨r3, hr3⟩ := repR_suf hr
                exact ⟨⟨c :: (r3 ++ r), by rw [hr3, hr2]; simp⟩, fun h => hb (repR_bd hr h)⟩
            · injection h with h; injection h with h1 h2; exact ⟨⟨[], h2⟩, fun h => h1 ▸ h⟩
theorem Suf.post {at_ : Rd} (h : Suf at_) : Suf (postR NP at_) := by
  intro t p u e
  unfold postR at e
  cases ha : at_ t with
  | none => rw [ha] at e; cases e
  | some r =>
    obtain ⟨p1, v⟩ := r
    obtain ⟨q, hq⟩ := h t p1 v ha
    rw [ha] at e
    obtain ⟨⟨r, hr⟩, _⟩ := postL_both _ _ _ _ _ e
    exact ⟨q ++ r, by rw [hq, hr]; simp⟩
theorem BdR.post {at_ : Rd} (h : BdR at_) : BdR (postR NP at_) := by
  intro t p u e
  unfold postR at e
  cases ha : at_ t with
  | none => rw [ha] at e; cases e
  | some r =>
    obtain ⟨p1, v⟩ := r
    have hb := h t p1 v ha
    rw [ha] at e
    exact (postL_both _ _ _ _ _ e).2 hb
theorem rowL_both {one : Rd} {sep : UInt8} (h : Suf one) (hb : BdR one) (n : Nat) : ∀ (f : Fo) (t : List UInt8) (q : Fo) (u : List UInt8), rowL one sep n f t = some (q, u) → (∃ r, t = r ++ u) ∧ (Bd f → Bd q) := by
  induction n with
  | zero => intro p t q u h; injection h with h; injection h with h1 h2; exact ⟨⟨[], h2⟩, fun h => h1 ▸ h⟩
  | succ n ih =>
    intro p t q u e
    cases t with
    | nil => injection e with h; injection h with h1 h2; exact ⟨⟨[], h2⟩, fun h => h1 ▸ h⟩
    | cons c t =>
      rw [rowL] at e
      split at e
      · cases ho : one t with
        | none => rw [ho] at e; cases e
        | some x =>
          obtain ⟨q1, v⟩ := x
          rw [ho] at e
          obtain ⟨⟨r, hr2⟩, hb2⟩ := ih _ _ _ _ e
          obtain ⟨r3, hr3⟩ := h _ _ _ ho
          exact ⟨⟨c :: (r3 ++ r), by rw [hr3, hr2]; simp⟩, fun h => hb2 (Bd.mk h (hb _ _ _ ho))⟩
      · injection e with h; injection h with h1 h2; exact ⟨⟨[], h2⟩, fun h => h1 ▸ h⟩
theorem row_both {one : Rd} {sep : UInt8} {k : Int} (h : Suf one) (hb : BdR one) : Suf (rowR k sep one) ∧ BdR (rowR k sep one) := by
  have key : ∀ t p u, rowR k sep one t = some (p, u) → (∃ q, t = q ++ u) ∧ Bd p := by
    intro t p u e
    cases ho : one t with
    | none => unfold rowR at e; rw [ho] at e; cases e
    | some x =>
      obtain ⟨q1, v⟩ := x
      rw [rowR_eq ho] at e
      unfold rowE at e
      cases hr : rowL one sep v.length q1 v with
      | none => rw [hr] at e; cases e
      | some y =>
        obtain ⟨f, u2⟩ := y
        rw [hr] at e
        simp only [Option.map_some, Option.some.injEq, Prod.mk.injEq] at e
        obtain ⟨⟨r, hr2⟩, hb2⟩ := rowL_both h hb _ _ _ _ _ hr
        obtain ⟨r3, hr3⟩ := h _ _ _ ho
        have hbf := hb2 (hb _ _ _ ho)
        refine ⟨⟨r3 ++ r, by rw [hr3, hr2, ← e.2]; simp⟩, ?_⟩
        rw [← e.1]
        split
        · exact hbf
        · exact Bd.one hbf
  exact ⟨fun t p u e => (key t p u e).1, fun t p u e => (key t p u e).2⟩
theorem alt_both (n : Nat) : Suf (altR NP n) ∧ BdR (altR NP n) := by
  induction n with
  | zero => exact ⟨fun t p u e => (by cases e), fun t p u e => (by cases e)⟩
  | succ n ih =>
    have h1 := row_both (k := 4) (sep := 47) ih.1.atom.post ih.2.atom.post
    have h2 := row_both (k := 5) (sep := 124) h1.1 h1.2
    exact h2
end Go.Proofs.YtpaehicfndkliaaGreatDoor.Pa
