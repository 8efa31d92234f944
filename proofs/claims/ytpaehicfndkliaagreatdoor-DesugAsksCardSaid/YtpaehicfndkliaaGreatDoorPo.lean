
/- What was written is read back (plain): of every path that may be. No condition. -/
import Derived.Test.YtpaehicfndkliaaGreatDoorPn
namespace Go.Proofs.YtpaehicfndkliaaGreatDoor.Pa
open Go.RowKit Go.Lib Na Go.PN

variable {N : Num}
def L1 (N : Num) (k : Int) (l : ByteArray) (d : Fo) (mn mx : Int) : Prop :=
  ∀ n, d.sz ≤ n → ∀ r : List UInt8, stop 1 r → rowR 4 47 (postR N (atomR (altR N n))) (txN k l d mn mx 1 ++ r) = some (nrm (.cons k l d mn mx .nil), r)
theorem ba_back (l : ByteArray) : (⟨l.data.toList.toArray⟩ : ByteArray) = l := by
  apply ByteArray.ext; simp
theorem one_len {d : Fo} (h : d.len = 1) : ∃ k l g mn mx, d = .cons k l g mn mx .nil := by
  match d, h with
  | .cons k l g mn mx .nil, _ => exact ⟨k, l, g, mn, mx, rfl⟩
  | .cons _ _ _ _ _ (.cons _ _ _ _ _ _), h => simp [Fo.len] at h
theorem nil_len {d : Fo} (h : d.len = 0) : d = .nil := by
  match d, h with
  | .nil, _ => rfl
theorem stop_one {p : Nat} {c : UInt8} (r : List UInt8) (h : plainB c = false ∧ c ≠ 42 ∧ c ≠ 43 ∧ c ≠ 63 ∧ c ≠ 123 ∧ (p ≤ 1 → c ≠ 47) ∧ (p = 0 → c ≠ 124)) : stop p (c :: r) := by
  intro c' e; injection e with e; subst e; exact h
theorem row4 (hN : GN N) (d : Fo) (n : Nat) (hlen : 2 ≤ d.len) (h60 : d.sz ≤ 60) (hn : d.sz ≤ n + 1)
    (hk : ∀ k l g mn mx g1 g2, d = Fo.app g1 (.cons k l g mn mx g2) → L2 N k l g mn mx) (r : List UInt8) (hr : stop 1 r) (l : ByteArray) (mn mx : Int) :
    rowR 4 47 (postR N (atomR (altR N n))) (bodyN 4 l d mn mx ++ r) = some (nrm (.cons 4 l d mn mx .nil), r) := by
  have h := rowR_back 4 (postR N (atomR (altR N n))) 47 2 d r (fun c hc => (hr c hc).2.2.2.2.2.1 (by omega)) hlen (fun k' l' d' mn' mx' g1 g2 e r' hr' => by
    have hs := mid_sz e
    have hst : stop 2 r' := by
      rw [hr']
      exact mid_stop (stop_one [] (by decide)) (hr.mono (by omega))
    exact post_back hN (hk _ _ _ _ _ _ _ e) n (by omega) (by omega) r' hst)
  exact h
theorem row5 (d : Fo) (n : Nat) (hlen : 2 ≤ d.len) (hn : d.sz ≤ n + 1)
    (hk : ∀ k l g mn mx g1 g2, d = Fo.app g1 (.cons k l g mn mx g2) → L1 N k l g mn mx) (r : List UInt8) (hr : stop 0 r) (l : ByteArray) (mn mx : Int) :
    altR N (n + 1) (bodyN 5 l d mn mx ++ r) = some (nrm (.cons 5 l d mn mx .nil), r) := by
  have h := rowR_back 5 (rowR 4 47 (postR N (atomR (altR N n)))) 124 1 d r (fun c hc => (hr c hc).2.2.2.2.2.2 rfl) hlen (fun k' l' d' mn' mx' g1 g2 e r' hr' => by
    have hs := mid_sz e
    have hst : stop 1 r' := by
      rw [hr']
      exact mid_stop (stop_one [] (by decide)) (hr.mono (by omega))
    exact hk _ _ _ _ _ _ _ e n (by omega) r' hst)
  exact h
theorem alt4 (hN : GN N) (d : Fo) (n : Nat) (hlen : 2 ≤ d.len) (h60 : d.sz ≤ 60) (hn : d.sz ≤ n + 1)
    (hk : ∀ k l g mn mx g1 g2, d = Fo.app g1 (.cons k l g mn mx g2) → L2 N k l g mn mx) (r : List UInt8) (hr : stop 0 r) (l : ByteArray) (mn mx : Int) :
    altR N (n + 1) (bodyN 4 l d mn mx ++ r) = some (nrm (.cons 4 l d mn mx .nil), r) :=
  rowR_one 5 _ 124 4 l d mn mx _ r (fun c hc => (hr c hc).2.2.2.2.2.2 rfl) (row4 hN d n hlen h60 hn hk r (hr.mono (by omega)) l mn mx)
theorem head_of {t : List UInt8} {c : UInt8} {u : List UInt8} (h : t = c :: u) (r : List UInt8) : (t ++ r).head? = some c := by rw [h]; rfl
/-- A path in brackets. -/
theorem br_back (k : Int) (l : ByteArray) (d : Fo) (mn mx : Int) (hk : k = 4 ∨ k = 5) (hh : ∃ c t, bodyN k l d mn mx = c :: t ∧ c ≠ 41)
    (h : ∀ n, d.sz ≤ n + 1 → ∀ r, stop 0 r → altR N (n + 1) (bodyN k l d mn mx ++ r) = some (nrm (.cons k l d mn mx .nil), r)) (h1 : 1 ≤ d.sz) : L2 N k l d mn mx := by
  intro n hn r _
  have hb : txN k l d mn mx 2 = [40] ++ bodyN k l d mn mx ++ [41] := by
    unfold txN
    rw [if_pos (by unfold bnd; rcases hk with rfl | rfl <;> decide)]
  obtain ⟨c, t, e, hc⟩ := hh
  refine ⟨nrm (.cons k l d mn mx .nil), r, 0, ?_, by omega, by omega, fun G _ => rfl⟩
  rw [hb, List.append_assoc, List.append_assoc]
  match n, hn with
  | 0, hn => omega
  | n + 1, hn =>
    have h2 := h n (by omega) (41 :: r) (stop_one r (by decide))
    show atomR (altR N (n + 1)) (40 :: (bodyN k l d mn mx ++ (41 :: r))) = _
    unfold atomR
    simp only
    rw [if_neg (by decide), if_pos trivial, head_of e, if_neg (by intro x; injection x with x; exact hc x), h2]
    rfl
/-- A path with a sign behind it. -/
theorem post_sign (k : Int) (c : UInt8) (hc : plainB c = false) (l : ByteArray) (d : Fo) (mn mx : Int) (hd : d.len = 1) (hb : txN k l d mn mx 2 = Lib.join (tx d 2) [] ++ [c])
    (hk : ∀ k l g mn mx g1 g2, d = Fo.app g1 (.cons k l g mn mx g2) → L2 N k l g mn mx)
    (hs : ∀ G p u, postL N (G + 1) p (c :: u) = postL N G (one1 k [] p 0 0) u) (hn : nrm (.cons k l d mn mx .nil) = one1 k [] (nrm d) 0 0) : L2 N k l d mn mx := by
  intro n hn2 r _
  obtain ⟨k', l', g, mn', mx', rfl⟩ := one_len hd
  rw [hb, tx_cons, show tx .nil 2 = [] from rfl, join_one, List.append_assoc]
  simp only [Fo.sz] at hn2
  obtain ⟨p0, u0, j, a1, a2, a3, a4⟩ := hk k' l' g mn' mx' .nil .nil rfl n (by omega) ([c] ++ r) (fun c' e => by injection e with e; subst e; exact hc)
  refine ⟨p0, u0, j + 1, a1, by simp only [List.length_append, List.length_cons, List.length_nil] at a2; omega, by simp only [Fo.sz]; omega, fun G hG => ?_⟩
  rw [a4 G (by omega)]
  obtain ⟨G', rfl⟩ : ∃ G', G = G' + j + 1 := ⟨G - j - 1, by omega⟩
  rw [show G' + j + 1 - j = G' + 1 from by omega, show G' + j + 1 - (j + 1) = G' from by omega, hn]
  exact hs G' _ r
theorem plain_44 : plainB 44 = false := by decide
theorem rep_back (hN : GN N) (p : Fo) (mn mx : Int) (r : List UInt8) (h0 : 0 ≤ mn) (h8 : mn ≤ 8) (hx : mx = -1 ∨ (0 ≤ mx ∧ mx ≤ 8)) :
    repR N p (itoa mn ++ 44 :: ((if mx = -1 then [] else itoa mx) ++ 125 :: r)) = some (one1 9 [] p mn mx, r) := by
  unfold repR
  rw [hN.mn mn 44 _ h0 h8 (by decide)]
  simp only [List.head?_cons, if_true, List.tail_cons]
  by_cases e : mx = -1
  · rw [if_pos e, List.nil_append, hN.no 125 r (by decide)]
    simp only [List.head?_cons, if_true, List.tail_cons]
    rw [e]
  · rw [if_neg e, hN.mx mx 125 r (by omega) (by omega) (by decide)]
    simp only [List.head?_cons, if_true, List.tail_cons]
theorem post_rep (hN : GN N) (l : ByteArray) (d : Fo) (mn mx : Int) (hd : d.len = 1) (h0 : 0 ≤ mn) (h8 : mn ≤ 8) (hx : mx = -1 ∨ (0 ≤ mx ∧ mx ≤ 8))
    (hk : ∀ k l g mn mx g1 g2, d = Fo.app g1 (.cons k l g mn mx g2) → L2 N k l g mn mx) : L2 N 9 l d mn mx := by
  intro n hn2 r _
  obtain ⟨k', l', g, mn', mx', rfl⟩ := one_len hd
  have hb : txN 9 l (.cons k' l' g mn' mx' .nil) mn mx 2 ++ r = txN k' l' g mn' mx' 2 ++ 123 :: (itoa mn ++ 44 :: ((if mx = -1 then [] else itoa mx) ++ 125 :: r)) := by
    show Lib.join (tx (.cons k' l' g mn' mx' .nil) 2) [] ++ [123] ++ itoa mn ++ [44] ++ (if mx = -1 then [] else itoa mx) ++ [125] ++ r = _
    rw [tx_cons, show tx .nil 2 = [] from rfl, join_one]
    simp only [List.append_assoc, List.cons_append, List.nil_append]
  rw [hb]
  simp only [Fo.sz] at hn2
  obtain ⟨p0, u0, j, a1, a2, a3, a4⟩ := hk k' l' g mn' mx' .nil .nil rfl n (by omega) (123 :: (itoa mn ++ 44 :: ((if mx = -1 then [] else itoa mx) ++ 125 :: r))) (fun c' e => by injection e with e; subst e; decide)
  refine ⟨p0, u0, j + 1, a1, by simp only [List.length_append, List.length_cons] at a2; omega, by simp only [Fo.sz]; omega, fun G hG => ?_⟩
  rw [a4 G (by omega)]
  obtain ⟨G', rfl⟩ : ∃ G', G = G' + j + 1 := ⟨G - j - 1, by omega⟩
  rw [show G' + j + 1 - j = G' + 1 from by omega, show G' + j + 1 - (j + 1) = G' from by omega, postL]
  rw [if_neg (by decide), if_neg (by decide), if_neg (by decide), if_pos rfl, rep_back hN _ mn mx r h0 h8 hx]
  rfl
theorem back (hN : GN N) (m : Nat) : ∀ (k : Int) (l : ByteArray) (d : Fo) (mn mx : Int), d.sz < m → d.sz ≤ 60 → Val (.cons k l d mn mx .nil) → L2 N k l d mn mx ∧ L1 N k l d mn mx := by
  induction m with
  | zero => intro k l d mn mx h; omega
  | succ m ih =>
    intro k l d mn mx hm h60 hv
    obtain ⟨hk, h0, h4, h6, h2, h9⟩ := one_zero hv.cons.1
    have hvd := hv.cons.2.1
    have kid : ∀ k' l' g mn' mx' g1 g2, d = Fo.app g1 (.cons k' l' g mn' mx' g2) → L2 N k' l' g mn' mx' ∧ L1 N k' l' g mn' mx' := by
      intro k' l' g mn' mx' g1 g2 e
      have := mid_sz e
      exact ih k' l' g mn' mx' (by omega) (by omega) (mid_val hvd e)
    have hh : k = 4 ∨ k = 5 → ∃ c t, bodyN k l d mn mx = c :: t ∧ c ≠ 41 := fun e => by
      obtain ⟨⟨c, t, a, b⟩, _⟩ := txN_head (d.sz + 1) k l d mn mx 0 (by omega) hv
      exact ⟨c, t, a, b (by omega) (by omega) (by omega) (by omega)⟩
    have hsz : 2 ≤ d.len → 1 ≤ d.sz := by
      intro e
      cases d with
      | nil => simp [Fo.len] at e
      | cons => simp [Fo.sz]
    have hL2 : L2 N k l d mn mx := by
      rcases (show k = 1 ∨ k = 2 ∨ k = 3 ∨ k = 4 ∨ k = 5 ∨ k = 6 ∨ k = 7 ∨ k = 8 ∨ k = 9 from by omega) with rfl | rfl | rfl | rfl | rfl | rfl | rfl | rfl | rfl
      · obtain rfl := nil_len (h0 (by omega))
        intro n hn r _
        exact ⟨_, r, 0, rfl, by omega, by omega, fun G _ => rfl⟩
      · obtain rfl := nil_len (h0 (by omega))
        intro n hn r hr
        obtain ⟨c, t, e, c1, c2, _⟩ := nameT_head l.data.toList
        refine ⟨one1 2 l.data.toList .nil 0 0, r, 0, ?_, by omega, by omega, fun G _ => ?_⟩
        · show atomR (altR N n) (nameT l.data.toList ++ r) = _
          have hb := nameR_back l.data.toList r hr
          rw [e, List.cons_append] at hb ⊢
          unfold atomR
          simp only
          rw [if_neg c1, if_neg c2, hb]
          rfl
        · unfold one1
          rw [ba_back]
          rfl
      · obtain rfl := nil_len (h0 (by omega))
        intro n hn r hr
        refine ⟨one1 3 l.data.toList .nil 0 0, r, 0, ?_, by omega, by omega, fun G _ => ?_⟩
        · show atomR (altR N n) (94 :: (nameT l.data.toList ++ r)) = _
          unfold atomR
          simp only [if_true]
          rw [nameR_back l.data.toList r hr]
          rfl
        · unfold one1
          rw [ba_back]
          rfl
      · have h5 := h4 (by omega)
        exact br_back 4 l d mn mx (by omega) (hh (by omega)) (fun n hn r hr => alt4 hN d n h5.1 h60 hn (fun k' l' g mn' mx' g1 g2 e => (kid k' l' g mn' mx' g1 g2 e).1) r hr l mn mx) (hsz h5.1)
      · have h5 := h4 (by omega)
        exact br_back 5 l d mn mx (by omega) (hh (by omega)) (fun n hn r hr => row5 d n h5.1 hn (fun k' l' g mn' mx' g1 g2 e => (kid k' l' g mn' mx' g1 g2 e).2) r hr l mn mx) (hsz h5.1)
      · exact post_sign 6 42 (by decide) l d mn mx (h6 (by omega)) rfl (fun k' l' g mn' mx' g1 g2 e => (kid k' l' g mn' mx' g1 g2 e).1) (fun G p u => rfl) rfl
      · exact post_sign 7 43 (by decide) l d mn mx (h6 (by omega)) rfl (fun k' l' g mn' mx' g1 g2 e => (kid k' l' g mn' mx' g1 g2 e).1) (fun G p u => rfl) rfl
      · exact post_sign 8 63 (by decide) l d mn mx (h6 (by omega)) rfl (fun k' l' g mn' mx' g1 g2 e => (kid k' l' g mn' mx' g1 g2 e).1) (fun G p u => rfl) rfl
      · have h10 := h9 rfl
        exact post_rep hN l d mn mx (h6 (by omega)) h10.1 h10.2.1 (by omega) (fun k' l' g mn' mx' g1 g2 e => (kid k' l' g mn' mx' g1 g2 e).1)
    refine ⟨hL2, ?_⟩
    intro n hn r hr
    by_cases k4 : k = 4
    · subst k4
      have h5 := h4 (by omega)
      exact row4 hN d n h5.1 h60 (by omega) (fun k' l' g mn' mx' g1 g2 e => (kid k' l' g mn' mx' g1 g2 e).1) r hr l mn mx
    · have e : txN k l d mn mx 1 = txN k l d mn mx 2 := by
        unfold txN bnd
        by_cases k5 : k = 5
        · rw [if_pos k5, if_pos (by decide), if_pos (by decide)]
        · rw [if_neg k5, if_neg k4, if_neg (by decide), if_neg (by decide)]
      rw [e]
      exact rowR_one 4 _ 47 k l d mn mx _ r (fun c hc => (hr c hc).2.2.2.2.2.1 (by omega)) (post_back hN hL2 n hn h60 r (hr.mono (by omega)))
/-- A path's text is read as the path that it is, whatever stands behind it that stops. -/
theorem alt_back (hN : GN N) (k : Int) (l : ByteArray) (d : Fo) (mn mx : Int) (hv : Val (.cons k l d mn mx .nil)) (h60 : d.sz ≤ 60) (n : Nat) (hn : d.sz ≤ n) (r : List UInt8) (hr : stop 0 r) :
    altR N (n + 1) (bodyN k l d mn mx ++ r) = some (nrm (.cons k l d mn mx .nil), r) := by
  obtain ⟨hk, h0, h4, h6, h2, h9⟩ := one_zero hv.cons.1
  have hvd := hv.cons.2.1
  have kid : ∀ k' l' g mn' mx' g1 g2, d = Fo.app g1 (.cons k' l' g mn' mx' g2) → L2 N k' l' g mn' mx' ∧ L1 N k' l' g mn' mx' := by
    intro k' l' g mn' mx' g1 g2 e
    have := mid_sz e
    exact back hN (d.sz + 1) k' l' g mn' mx' (by omega) (by omega) (mid_val hvd e)
  by_cases k5 : k = 5
  · subst k5
    have h5 := h4 (by omega)
    exact row5 d n h5.1 (by omega) (fun k' l' g mn' mx' g1 g2 e => (kid k' l' g mn' mx' g1 g2 e).2) r hr l mn mx
  · have h1 := (back hN (d.sz + 1) k l d mn mx (by omega) h60 hv).2 n hn r (hr.mono (by omega))
    have e : txN k l d mn mx 1 = bodyN k l d mn mx := by
      unfold txN
      rw [if_neg]
      unfold bnd
      rw [if_neg k5]
      split <;> omega
    rw [e] at h1
    exact rowR_one 5 _ 124 k l d mn mx _ r (fun c hc => (hr c hc).2.2.2.2.2.2 rfl) h1
end Go.Proofs.YtpaehicfndkliaaGreatDoor.Pa
