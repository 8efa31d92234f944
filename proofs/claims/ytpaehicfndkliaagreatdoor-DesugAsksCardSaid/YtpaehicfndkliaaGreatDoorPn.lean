
/- What was written is read back (plain): of every path that may be. No condition. -/
import Derived.Test.YtpaehicfndkliaaGreatDoorPm
namespace Go.Proofs.YtpaehicfndkliaaGreatDoor.Pa
open Go.RowKit Go.Lib Na Go.PN

theorem join_head (x : List UInt8) (r : List (List UInt8)) (sep : List UInt8) (c : UInt8) (t : List UInt8) (h : x = c :: t) : ∃ u, Lib.join (x :: r) sep = c :: u := by
  rw [join_cons, h]; exact ⟨t ++ joinTail sep r, rfl⟩
theorem nameT_head (l : List UInt8) : ∃ c t, nameT l = c :: t ∧ c ≠ 94 ∧ c ≠ 40 ∧ c ≠ 41 := by
  unfold nameT
  split
  · rename_i h
    unfold bareB at h
    rw [Bool.and_eq_true] at h
    cases l with
    | nil => cases h.1
    | cons c t =>
      have h2 := h.2
      rw [List.all_cons, Bool.and_eq_true] at h2
      refine ⟨c, t, rfl, ?_, ?_, ?_⟩ <;> (intro e; subst e; exact absurd h2.1 (by decide))
  · exact ⟨60, _, rfl, by decide, by decide, by decide⟩
/-- A path's text does not begin with a closing bracket. -/
theorem txN_head (m : Nat) : ∀ (k : Int) (l : ByteArray) (d : Fo) (mn mx : Int) (p : Int), d.sz < m → Val (.cons k l d mn mx .nil) → (∃ c t, bodyN k l d mn mx = c :: t ∧ (k ≠ 1 → k ≠ 2 → k ≠ 3 → k ≤ 5 → c ≠ 41)) ∧ ∃ c t, txN k l d mn mx p = c :: t ∧ c ≠ 41 := by
  induction m with
  | zero => intro k l d mn mx p h; omega
  | succ m ih =>
    intro k l d mn mx p hm hv
    obtain ⟨h1, h2, _⟩ := hv.cons
    obtain ⟨hk, h0, h4, h6, _⟩ := one_zero h1
    have hb : ∃ c t, bodyN k l d mn mx = c :: t ∧ c ≠ 41 := by
      have kid : ∀ q : Int, 1 ≤ d.len → ∀ sep, ∃ c t, Lib.join (tx d q) sep = c :: t ∧ c ≠ 41 := by
        intro q hl sep
        cases d with
        | nil => simp [Fo.len] at hl
        | cons k' l' d' mn' mx' g =>
          obtain ⟨a1, a2, a3⟩ := h2.cons
          obtain ⟨_, c, t, e, hc⟩ := ih k' l' d' mn' mx' q (by simp only [Fo.sz] at hm; omega) (Val.mk a1 a2 (show Val .nil from rfl))
          rw [tx_cons]
          obtain ⟨u, hu⟩ := join_head _ (tx g q) sep c t e
          exact ⟨c, u, hu, hc⟩
      unfold bodyN bodyT
      by_cases k2 : k = 2
      · rw [if_pos k2]
        obtain ⟨c, t, e, _, _, h⟩ := nameT_head l.data.toList
        exact ⟨c, t, e, h⟩
      rw [if_neg k2]
      by_cases k3 : k = 3
      · rw [if_pos k3]; exact ⟨94, _, rfl, by decide⟩
      rw [if_neg k3]
      by_cases k4 : k = 4
      · rw [if_pos k4]; exact kid 2 (by have := h4 (Or.inl k4); omega) _
      rw [if_neg k4]
      by_cases k5 : k = 5
      · rw [if_pos k5]; exact kid 1 (by have := h4 (Or.inr k5); omega) _
      rw [if_neg k5]
      by_cases hk6 : 6 ≤ k
      · obtain ⟨c, t, e, hc⟩ := kid 2 (by have := h6 hk6; omega) []
        rw [e]
        by_cases k6 : k = 6
        · rw [if_pos k6]; exact ⟨c, _, rfl, hc⟩
        rw [if_neg k6]
        by_cases k7 : k = 7
        · rw [if_pos k7]; exact ⟨c, _, rfl, hc⟩
        rw [if_neg k7]
        by_cases k8 : k = 8
        · rw [if_pos k8]; exact ⟨c, _, rfl, hc⟩
        rw [if_neg k8, if_pos (by omega)]
        exact ⟨c, _, rfl, hc⟩
      · rw [if_neg (by omega), if_neg (by omega), if_neg (by omega), if_neg (by omega)]
        exact ⟨40, _, rfl, by decide⟩
    obtain ⟨c, t, e, hc⟩ := hb
    refine ⟨⟨c, t, e, fun _ _ _ _ => hc⟩, ?_⟩
    unfold txN
    split
    · exact ⟨40, _, rfl, by decide⟩
    · exact ⟨c, t, e, hc⟩
/-- What stands in a row stands in it with less. -/
theorem mid_sz {f g1 g2 : Fo} {k : Int} {l : ByteArray} {d : Fo} {mn mx : Int} (e : f = Fo.app g1 (.cons k l d mn mx g2)) : d.sz < f.sz := by
  rw [e, Fo.app_sz, Fo.sz]; omega
theorem mid_val {f g1 g2 : Fo} {k : Int} {l : ByteArray} {d : Fo} {mn mx : Int} (h : Val f) (e : f = Fo.app g1 (.cons k l d mn mx g2)) : Val (.cons k l d mn mx .nil) := by
  subst e
  induction g1 with
  | nil => obtain ⟨a, b, _⟩ := Val.cons h; exact Val.mk a b rfl
  | cons k' l' d' mn' mx' r _ ih => exact ih (Val.cons h).2.2
theorem mid_none {f g1 g2 : Fo} {q k : Int} {l : ByteArray} {d : Fo} {mn mx : Int} (h : noneK q f = true) (e : f = Fo.app g1 (.cons k l d mn mx g2)) : k ≠ q := by
  subst e
  rw [noneK_app, noneK] at h
  simp only [Bool.and_eq_true, Bool.not_eq_true', beq_eq_false_iff_ne] at h
  exact h.2.1
/-- What stands behind a text in a row: the sign, or what stands behind the row. -/
theorem mid_stop {sep : UInt8} {p : Nat} {g2 : Fo} {q : Int} {r : List UInt8} (hs : stop p [sep]) (hr : stop p r) : stop p (joinTail [sep] (tx g2 q) ++ r) := by
  cases g2 with
  | nil => exact hr
  | cons k l d mn mx g =>
    rw [tx_cons]
    intro c hc
    have : c = sep := by simpa [joinTail] using hc.symm
    subst this
    exact hs _ rfl
variable {N : Num}
/-- A path behind which nothing stands, as an atom with signs behind it. -/
def L2 (N : Num) (k : Int) (l : ByteArray) (d : Fo) (mn mx : Int) : Prop :=
  ∀ n, d.sz ≤ n → ∀ r : List UInt8, (∀ c, r.head? = some c → plainB c = false) → ∃ p0 u0 j, atomR (altR N n) (txN k l d mn mx 2 ++ r) = some (p0, u0) ∧ j + r.length ≤ u0.length ∧ j ≤ d.sz ∧ ∀ G, j ≤ G → postL N G p0 u0 = postL N (G - j) (nrm (.cons k l d mn mx .nil)) r
theorem post_back (hN : GN N) {k : Int} {l : ByteArray} {d : Fo} {mn mx : Int} (h : L2 N k l d mn mx) (n : Nat) (hn : d.sz ≤ n) (h6 : d.sz ≤ 60) (r : List UInt8) (hr : stop 2 r) :
    postR N (atomR (altR N n)) (txN k l d mn mx 2 ++ r) = some (nrm (.cons k l d mn mx .nil), r) := by
  obtain ⟨p0, u0, j, h1, h2, h3, h4⟩ := h n hn r (fun c hc => (hr c hc).1)
  unfold postR
  rw [h1]
  simp only
  have := hN.most u0
  rw [h4 _ (by omega), postL_stop _ _ _ _ hr]
end Go.Proofs.YtpaehicfndkliaaGreatDoor.Pa
