/- Plain facts for the laws on paths: brackets, bars; unlike paths have unlike texts. No condition. -/
import Derived.Test.YthbodojhddmbhaaDoorRe
namespace Go.Proofs.YthbodojhddmbhaaDoor.Pa
open Go.RowKit Go.Lib Na Go.PN

theorem join_last (x : List UInt8) (r : List (List UInt8)) (sep : List UInt8) (P : UInt8 → Prop) (h : ∀ y ∈ x :: r, ∃ t c, y = t ++ [c] ∧ P c) : ∃ t c, Lib.join (x :: r) sep = t ++ [c] ∧ P c := by
  induction r generalizing x with
  | nil => rw [join_one]; exact h x (by simp)
  | cons y r ih =>
    obtain ⟨t, c, e, hc⟩ := ih y (fun z hz => h z (by simp at hz ⊢; exact Or.inr hz))
    rw [join_cons] at e ⊢
    refine ⟨x ++ sep ++ t, c, ?_, hc⟩
    have e2 : joinTail sep (y :: r) = sep ++ (y ++ joinTail sep r) := by simp [joinTail]
    rw [e2, e]
    simp
theorem nameT_last (l : List UInt8) : ∃ t c, nameT l = t ++ [c] ∧ c ≠ 124 := by
  unfold nameT
  split
  · rename_i h
    unfold bareB at h
    rw [Bool.and_eq_true] at h
    have hne : l ≠ [] := by intro e; rw [e] at h; cases h.1
    refine ⟨l.dropLast, l.getLast hne, (List.dropLast_concat_getLast hne).symm, ?_⟩
    intro e
    have := List.all_eq_true.1 h.2 _ (List.getLast_mem hne)
    rw [e] at this
    cases this
  · exact ⟨60 :: l.flatMap esc, 62, rfl, by decide⟩
/-- A path's text does not end with a bar. -/
theorem txN_last (m : Nat) : ∀ (k : Int) (l : ByteArray) (d : Fo) (mn mx : Int), d.sz < m → Val (.cons k l d mn mx .nil) → (∃ t c, bodyN k l d mn mx = t ++ [c] ∧ c ≠ 124) ∧ ∀ p, ∃ t c, txN k l d mn mx p = t ++ [c] ∧ c ≠ 124 := by
  induction m with
  | zero => intro k l d mn mx h; omega
  | succ m ih =>
    intro k l d mn mx hm hv
    obtain ⟨h1, h2, _⟩ := hv.cons
    obtain ⟨hk, h0, h4, h6, _⟩ := one_zero h1
    have hb : ∃ t c, bodyN k l d mn mx = t ++ [c] ∧ c ≠ 124 := by
      have kid : ∀ q : Int, 1 ≤ d.len → ∀ sep, ∃ t c, Lib.join (tx d q) sep = t ++ [c] ∧ c ≠ 124 := by
        intro q hl sep
        have hall : ∀ (f : Fo), f.sz ≤ m → Val f → ∀ y ∈ tx f q, ∃ t c, y = t ++ [c] ∧ c ≠ 124 := by
          intro f
          induction f with
          | nil => intro _ _ y hy; cases hy
          | cons k' l' d' mn' mx' g _ ihg =>
            intro hz hvf y hy
            obtain ⟨a1, a2, a3⟩ := hvf.cons
            simp only [Fo.sz] at hz
            rw [tx_cons] at hy
            rcases List.mem_cons.1 hy with rfl | hy
            · exact (ih k' l' d' mn' mx' (by omega) (Val.mk a1 a2 (show Val .nil from rfl))).2 q
            · exact ihg (by omega) a3 y hy
        cases d with
        | nil => simp [Fo.len] at hl
        | cons k' l' d' mn' mx' g =>
          have := hall (.cons k' l' d' mn' mx' g) (by simp only [Fo.sz] at hm ⊢; omega) h2
          rw [tx_cons] at this ⊢
          exact join_last _ _ sep _ this
      unfold bodyN bodyT
      by_cases k2 : k = 2
      · rw [if_pos k2]; exact nameT_last _
      rw [if_neg k2]
      by_cases k3 : k = 3
      · rw [if_pos k3]
        obtain ⟨t, c, e, hc⟩ := nameT_last l.data.toList
        exact ⟨94 :: t, c, by rw [e]; rfl, hc⟩
      rw [if_neg k3]
      by_cases k4 : k = 4
      · rw [if_pos k4]; exact kid 2 (by have := h4 (Or.inl k4); omega) _
      rw [if_neg k4]
      by_cases k5 : k = 5
      · rw [if_pos k5]; exact kid 1 (by have := h4 (Or.inr k5); omega) _
      rw [if_neg k5]
      by_cases k6 : k = 6
      · rw [if_pos k6]; exact ⟨_, 42, rfl, by decide⟩
      rw [if_neg k6]
      by_cases k7 : k = 7
      · rw [if_pos k7]; exact ⟨_, 43, rfl, by decide⟩
      rw [if_neg k7]
      by_cases k8 : k = 8
      · rw [if_pos k8]; exact ⟨_, 63, rfl, by decide⟩
      rw [if_neg k8]
      by_cases k9 : k = 9
      · rw [if_pos k9]; exact ⟨_, 125, rfl, by decide⟩
      rw [if_neg k9]
      exact ⟨[40], 41, rfl, by decide⟩
    refine ⟨hb, fun p => ?_⟩
    unfold txN
    split
    · exact ⟨_, 41, rfl, by decide⟩
    · exact hb
theorem parse_no {t : List UInt8} (hl : t.length ≤ 4000) (h : ∀ p, parseR t ≠ (p, 0)) : (parseR t).2 = 3 := by
  unfold parseR at h ⊢
  rw [if_neg (by omega)] at h ⊢
  cases hr : readR t with
  | none => rfl
  | some x =>
    obtain ⟨q, n⟩ := x
    rw [hr] at h
    simp only at h ⊢
    split
    · rfl
    · rename_i hn
      rw [if_neg hn] at h
      exact absurd rfl (h q)
theorem textT_ne {k : Int} {l : ByteArray} {d : Fo} {mn mx : Int} : textT k l d mn mx = [] ↔ checkE k l d mn mx ≠ 0 := by
  constructor
  · intro h e
    have := (text_len e).2
    rw [show textT k l d mn mx = bodyN k l d mn mx from if_pos e] at h
    rw [h] at this
    simp at this
  · intro h; exact if_neg h
/-- What has a bar behind is no path's text. -/
theorem bar_no {k : Int} {l : ByteArray} {d : Fo} {mn mx : Int} (h : checkE k l d mn mx = 0) : (parseR (textT k l d mn mx ++ [124])).2 = 3 := by
  have hl := (text_len h).1
  have ht : textT k l d mn mx = bodyN k l d mn mx := if_pos h
  apply parse_no
  · rw [ht, List.length_append]; simp; omega
  · intro p hp
    have h1 := parse_text hp
    cases p with
    | nil => exact absurd h1.symm (by simp [textF])
    | cons k' l' d' mn' mx' r =>
      have h2 : textT k' l' d' mn' mx' = textT k l d mn mx ++ [124] := h1
      have hc : checkE k' l' d' mn' mx' = 0 := by
        by_cases e : checkE k' l' d' mn' mx' = 0
        · exact e
        · rw [textT_ne.2 e] at h2; exact absurd h2.symm (by simp)
      obtain ⟨⟨t, c, e, hne⟩, _⟩ := txN_last (d'.sz + 1) k' l' d' mn' mx' (by omega) (check_zero hc).1
      rw [show textT k' l' d' mn' mx' = bodyN k' l' d' mn' mx' from if_pos hc, e] at h2
      have := List.append_inj_right' h2 rfl
      injection this with this
      exact hne this
theorem alt_br {k : Int} {l : ByteArray} {d : Fo} {mn mx : Int} (h : checkE k l d mn mx = 0) (r : List UInt8) (hr : stop 0 r) :
    atomR (altR NP 79) (40 :: (bodyN k l d mn mx ++ r)) = if r.head? = some 41 then some (nrm (.cons k l d mn mx .nil), r.tail) else none := by
  obtain ⟨hv, _, _, _, h60⟩ := check_zero h
  obtain ⟨⟨c, t, e, hc⟩, ⟨c2, t2, e2, hc2⟩⟩ := txN_head (d.sz + 1) k l d mn mx 0 (by omega) hv
  have hb : bodyN k l d mn mx = txN k l d mn mx 0 := (if_neg (by have := bnd_rng k; omega)).symm
  rw [atomR_br, if_neg]
  · rw [alt_back np_good k l d mn mx hv (by omega) 78 (by omega) r hr]
  · rw [hb, e2]
    intro x
    injection x with x
    exact hc2 x
/-- What stands in brackets is no path's text. -/
theorem br_no {k : Int} {l : ByteArray} {d : Fo} {mn mx : Int} (h : checkE k l d mn mx = 0) : (parseR ([40] ++ textT k l d mn mx ++ [41])).2 = 3 := by
  have hl := (text_len h).1
  have ht : textT k l d mn mx = bodyN k l d mn mx := if_pos h
  have ha := alt_br h [41] (stop_one [] (by decide))
  rw [if_pos (by rfl)] at ha
  have hz : nrm (.cons k l d mn mx .nil) = nrm (.cons k l d mn mx .nil) := rfl
  have hp : postR NP (atomR (altR NP 79)) (40 :: (bodyN k l d mn mx ++ [41])) = some (nrm (.cons k l d mn mx .nil), []) := by
    unfold postR; rw [ha]; simp only [List.tail_cons]; exact postL_stop _ _ _ _ (fun c hc => by cases hc)
  have h1 := rowR_one 4 (postR NP (atomR (altR NP 79))) 47 k l d mn mx (40 :: (bodyN k l d mn mx ++ [41])) [] (fun c hc => by cases hc) (by rw [List.append_nil]; exact hp)
  have h2 := rowR_one 5 (rowR 4 47 (postR NP (atomR (altR NP 79)))) 124 k l d mn mx (40 :: (bodyN k l d mn mx ++ [41])) [] (fun c hc => by cases hc) h1
  rw [List.append_nil] at h2
  have h3 : altR NP 80 ([40] ++ textT k l d mn mx ++ [41]) = some (nrm (.cons k l d mn mx .nil), []) := by rw [ht]; exact h2
  have h4 : readR ([40] ++ textT k l d mn mx ++ [41]) = none := by
    unfold readR
    rw [h3]
    simp only
    rw [if_neg]
    rw [nrm_text]
    intro e
    have := congrArg List.length e
    rw [List.length_take] at this
    simp at this
    omega
  unfold parseR
  rw [if_neg (by rw [ht]; simp; omega), h4]
theorem open_no {k : Int} {l : ByteArray} {d : Fo} {mn mx : Int} (h : checkE k l d mn mx = 0) : (parseR ([40] ++ textT k l d mn mx)).2 = 3 := by
  have hl := (text_len h).1
  have ht : textT k l d mn mx = bodyN k l d mn mx := if_pos h
  have ha := alt_br h [] (fun c hc => by cases hc)
  rw [if_neg (by simp), List.append_nil] at ha
  have h3 : altR NP 80 ([40] ++ textT k l d mn mx) = none := by
    rw [ht]
    show rowR 5 124 (rowR 4 47 (postR NP (atomR (altR NP 79)))) (40 :: bodyN k l d mn mx) = none
    unfold rowR postR
    rw [ha]
  have h4 : readR ([40] ++ textT k l d mn mx) = none := by unfold readR; rw [h3]
  unfold parseR
  rw [if_neg (by rw [ht]; simp; omega), h4]
theorem eps_parse : parseR [40, 41] = (.cons 1 ⟨#[]⟩ .nil 0 0 .nil, 0) := by
  have h : checkE 1 ⟨#[]⟩ .nil 0 0 = 0 := by decide +kernel
  have := parse_back h
  rw [show textT 1 ⟨#[]⟩ .nil 0 0 = [40, 41] from by decide +kernel] at this
  exact this
/-- Paths that may be have the same text just if they are the same. -/
theorem text_same {k : Int} {l : ByteArray} {d : Fo} {mn mx : Int} {k' : Int} {l' : ByteArray} {d' : Fo} {mn' mx' : Int} (h : checkE k l d mn mx = 0) (h' : checkE k' l' d' mn' mx' = 0) :
    decide (textT k l d mn mx = textT k' l' d' mn' mx') = sameL (.cons k l d mn mx .nil) (.cons k' l' d' mn' mx' .nil) := by
  rw [Bool.eq_iff_iff, decide_eq_true_eq, sameL_iff]
  constructor
  · intro e
    have h1 := parse_back h
    rw [e, parse_back h'] at h1
    injection h1 with h1 _
    exact h1.symm
  · intro e
    rw [← nrm_text, e, nrm_text]
end Go.Proofs.YthbodojhddmbhaaDoor.Pa
