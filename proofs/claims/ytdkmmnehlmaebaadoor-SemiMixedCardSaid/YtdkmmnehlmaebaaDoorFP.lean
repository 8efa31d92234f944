/- Plain facts: what a text is read as, as a double. No condition. -/
import Derived.Test.YtdkmmnehlmaebaaDoorFO
import Derived.Lib.Strings
namespace Go.FX
open Go.FT Go.Lib

open Classical in
/-- What a text is read as: the double whose text it is; else none. -/
noncomputable def pv (S : List UInt8) : Nat × Int := if h : ∃ b, b < W64 ∧ T b = S then (can h.choose, 0) else (0, 16)
theorem pv_of {S : List UInt8} {b : Nat} (hb : b < W64) (h : T b = S) : pv S = (can b, 0) := by
  have hx : ∃ b, b < W64 ∧ T b = S := ⟨b, hb, h⟩
  unfold pv
  rw [dif_pos hx, T_inj hx.choose_spec.1 hb (hx.choose_spec.2.trans h.symm)]
theorem pv_none {S : List UInt8} (h : ∀ b, b < W64 → T b ≠ S) : pv S = (0, 16) := by
  unfold pv
  rw [dif_neg]
  rintro ⟨b, hb, e⟩
  exact h b hb e
theorem T_can {b : Nat} : T (can b) = T b := by
  cases h : isN b
  · rw [show can b = b by unfold can; rw [h, if_neg Bool.false_ne_true]]
  · rw [show can b = NAN by unfold can; rw [h, if_pos rfl]]
    have h2 : isN NAN = true := by decide
    unfold T; rw [h, h2, if_pos rfl, if_pos rfl]
theorem T_congr {a b : Nat} (h : can a = can b) : T a = T b := by rw [← T_can, h, T_can]
/-- What was read is written again, and held against the text. -/
theorem pv_held {S : List UInt8} {y : Nat} (hy : y < W64) (h : ∀ b, b < W64 → T b = S → can b = can y) : (T y = S → pv S = (can y, 0)) ∧ (T y ≠ S → pv S = (0, 16)) := by
  refine ⟨fun e => pv_of hy e, fun hn => pv_none fun b hb e => hn ?_⟩
  rw [← e]; exact T_congr (h b hb e).symm
theorem pv_text {b : Nat} (hb : b < W64) : pv (T b) = (can b, 0) := pv_of hb rfl
theorem pv_range (S : List UInt8) : (pv S).1 < W64 ∧ ((pv S).2 = 0 ∨ (pv S).2 = 16 ∧ (pv S).1 = 0) ∧ can (pv S).1 = (pv S).1 := by
  by_cases hx : ∃ b, b < W64 ∧ T b = S
  · obtain ⟨b, hb, e⟩ := hx
    rw [pv_of hb e]
    exact ⟨can_lt hb, Or.inl rfl, can_can⟩
  · rw [pv_none (fun b hb e => hx ⟨b, hb, e⟩)]
    exact ⟨by decide, Or.inr ⟨rfl, rfl⟩, by decide⟩

/-! a double's text, taken apart -/
abbrev sNan : List UInt8 := [110, 97, 110]
abbrev sInf : List UInt8 := [105, 110, 102]
theorem pre45 {c : UInt8} {t : List UInt8} (h : c ≠ 45) : hasPrefix (c :: t) [45] = false ∧ trimPrefix (c :: t) [45] = c :: t := by
  have h1 : hasPrefix (c :: t) [45] = false := by
    unfold hasPrefix
    simp only [List.isPrefixOf, Bool.and_true, beq_eq_false_iff_ne]
    exact fun e => h e.symm
  refine ⟨h1, ?_⟩
  unfold trimPrefix
  rw [h1, if_neg Bool.false_ne_true]
theorem pre45_yes {t : List UInt8} : hasPrefix (45 :: t) [45] = true ∧ trimPrefix (45 :: t) [45] = t := by
  have h1 : hasPrefix (45 :: t) [45] = true := by
    unfold hasPrefix
    simp [List.isPrefixOf]
  refine ⟨h1, ?_⟩
  unfold trimPrefix
  rw [h1, if_pos rfl]; rfl
/-- A double from its sign and its rung. -/
def sg (n : Bool) (r : Nat) : Nat := if n then SGN + r else r
theorem sg_split {b : Nat} (hb : b < W64) : b = sg (ng b) (b % SGN) := by
  unfold sg ng
  unfold W64 at hb
  by_cases h : SGN ≤ b
  · rw [decide_eq_true h, if_pos rfl]; unfold SGN at *; omega
  · rw [decide_eq_false h, if_neg Bool.false_ne_true]; unfold SGN at *; omega
theorem T_shape {b : Nat} {S : List UInt8} (h : T b = S) :
    (isN b = true ∧ hasPrefix S [45] = false ∧ trimPrefix S [45] = sNan) ∨
    (isN b = false ∧ hasPrefix S [45] = ng b ∧ trimPrefix S [45] = body (b % SGN) ∧ b % SGN ≤ INF) := by
  cases hn : isN b
  · right
    have hm := isN_false hn
    unfold T at h
    rw [hn, if_neg Bool.false_ne_true] at h
    obtain ⟨c, t, hc, h1, h2⟩ := body_head (r := b % SGN)
    refine ⟨rfl, ?_, ?_, hm⟩
    · rw [← h]
      cases ng b
      · rw [if_neg Bool.false_ne_true, List.nil_append, hc]; exact (pre45 h1).1
      · rw [if_pos rfl]; exact pre45_yes.1
    · rw [← h]
      cases ng b
      · rw [if_neg Bool.false_ne_true, List.nil_append, hc]; exact (pre45 h1).2
      · rw [if_pos rfl]; exact pre45_yes.2
  · left
    unfold T at h
    rw [hn, if_pos rfl] at h
    subst h
    exact ⟨rfl, (pre45 (by decide)).1, (pre45 (by decide)).2⟩
theorem body_shape {r : Nat} (h : r ≤ INF) : body r ≠ sNan ∧
    ((r = INF ∧ body r = sInf) ∨ (r < INF ∧ body r ≠ sInf ∧ body r = decDigits (oe r).1 ++ 98 :: itoa (oe r).2 ∧ (oe r).1 < 2 * B ∧ -1074 ≤ (oe r).2 ∧ (oe r).2 ≤ 1023 ∧ Is (oe r).1 (oe r).2 r)) := by
  have hd : ∀ (u : Nat) (c : UInt8) (t x : List UInt8), c.toNat > 57 → decDigits u ++ x ≠ c :: t := by
    intro u c t x hc e
    obtain ⟨d, s, h1, h2⟩ := dec_cons u
    rw [h1] at e
    simp only [List.cons_append, List.cons.injEq] at e
    unfold isD at h2
    rw [e.1] at h2
    omega
  by_cases h0 : r = INF
  · have e : body r = sInf := by unfold body; rw [if_pos h0]
    rw [e]
    exact ⟨by decide, Or.inl ⟨h0, rfl⟩⟩
  · have hr : r < INF := by omega
    have e : body r = decDigits (oe r).1 ++ 98 :: itoa (oe r).2 := by unfold body; rw [if_neg h0]
    obtain ⟨v1, v2, v3, v4⟩ := VP_oe hr
    have hI : Is (oe r).1 (oe r).2 r := ⟨v2, hr, v1⟩
    have hk : (oe r).2 ≤ 1023 := by
      by_cases hz : r = 0
      · subst hz; rw [oe_zero]; decide
      · have hp : 1 ≤ (oe r).1 := by
          apply Nat.one_le_iff_ne_zero.2
          intro e0
          rw [e0, Nat.zero_mul] at v1
          exact hz (V_zero_iff.1 v1)
        exact hI.k_le hp v4
    rw [e]
    exact ⟨hd _ _ _ _ (by decide), Or.inr ⟨hr, hd _ _ _ _ (by decide), rfl, v4, v2, hk, hI⟩⟩

/-! the keys of both readings: which doubles can have the text -/
def neg (S : List UInt8) : Bool := hasPrefix S [45]
def rest (S : List UInt8) : List UInt8 := trimPrefix S [45]
theorem key_nan {S : List UInt8} {y : Nat} (h : rest S = sNan) (hy : isN y = true) : ∀ b, b < W64 → T b = S → can b = can y := by
  intro b _ e
  rcases T_shape e with ⟨h1, _, _⟩ | ⟨_, _, h3, h4⟩
  · unfold can; rw [h1, hy, if_pos rfl, if_pos rfl]
  · have : body (b % SGN) = sNan := h3.symm.trans h
    exact absurd this (body_shape h4).1
theorem key_inf {S : List UInt8} (h : rest S = sInf) : ∀ b, b < W64 → T b = S → can b = can (sg (neg S) INF) := by
  intro b hb e
  rcases T_shape e with ⟨_, _, h3⟩ | ⟨_, h2, h3, h4⟩
  · have : sNan = sInf := h3.symm.trans h
    exact absurd this (by decide)
  · have hq : body (b % SGN) = sInf := h3.symm.trans h
    rcases (body_shape h4).2 with ⟨r1, _⟩ | ⟨_, r2, _⟩
    · unfold neg
      rw [h2, ← r1, ← sg_split hb]
    · exact absurd hq r2
/-- A text that is neither 'nan' nor 'inf': it is a number's. -/
theorem num_of {S : List UInt8} {b : Nat} (hb : b < W64) (e : T b = S) (h1 : rest S ≠ sNan) (h2 : rest S ≠ sInf) :
    ∃ (r o : Nat) (k : Int), b = sg (neg S) r ∧ rest S = decDigits o ++ 98 :: itoa k ∧ o < 2 * B ∧ -1074 ≤ k ∧ k ≤ 1023 ∧ Is o k r := by
  rcases T_shape e with ⟨_, _, h3⟩ | ⟨_, g2, h3, h4⟩
  · exact absurd h3 h1
  · rcases (body_shape h4).2 with ⟨_, r2⟩ | ⟨_, _, r3, r4, r5, r6, r7⟩
    · exact absurd (h3.trans r2) h2
    · refine ⟨b % SGN, (oe (b % SGN)).1, (oe (b % SGN)).2, ?_, h3.trans r3, r4, r5, r6, r7⟩
      unfold neg
      rw [g2, ← sg_split hb]
theorem can_sg {n : Bool} {a b : Nat} (h : a = b) : can (sg n a) = can (sg n b) := by rw [h]

/-! the program's way -/
theorem none_nocut {S a c : List UInt8} (h1 : rest S ≠ sNan) (h2 : rest S ≠ sInf) (h : cut (rest S) [98] = (a, c, false)) : pv S = (0, 16) := by
  refine pv_none fun b hb e => ?_
  obtain ⟨r, o, k, _, hr, _⟩ := num_of hb e h1 h2
  rw [hr, cut_b _ _ (dec_ne98 o)] at h
  cases h
theorem none_bad {S a c : List UInt8} (h1 : rest S ≠ sNan) (h2 : rest S ≠ sInf) (h : cut (rest S) [98] = (a, c, true)) (hbad : (∀ n, parseUintB 64 a ≠ .ok n) ∨ (∀ n, atoiAll c ≠ .ok n) ∨ (∃ n, parseUintB 64 a = .ok n ∧ 2 * B ≤ n)) : pv S = (0, 16) := by
  refine pv_none fun b hb e => ?_
  obtain ⟨r, o, k, _, hr, ho, hk1, hk2, _⟩ := num_of hb e h1 h2
  rw [hr, cut_b _ _ (dec_ne98 o)] at h
  injection h with e1 e2
  injection e2 with e2 _
  subst e1 e2
  have p1 := uint_dec (u := o) (by unfold B at ho; omega)
  have p2 := atoi_itoa (e := k) (by omega) (by omega)
  rcases hbad with hbad | hbad | ⟨n, hn, hbad⟩
  · exact hbad _ p1
  · exact hbad _ p2
  · rw [p1] at hn
    injection hn with hn
    omega
theorem key_num {S a c : List UInt8} {n x : Nat} {k : Int} (h1 : rest S ≠ sNan) (h2 : rest S ≠ sInf) (h : cut (rest S) [98] = (a, c, true)) (hn : parseUintB 64 a = .ok n) (hk : atoiAll c = .ok k)
    (hx : ∀ r, Is n k r → x = r) : ∀ b, b < W64 → T b = S → can b = can (sg (neg S) x) := by
  intro b hb e
  obtain ⟨r, o, k', hs, hr, ho, hk1, hk2, hI⟩ := num_of hb e h1 h2
  rw [hr, cut_b _ _ (dec_ne98 o)] at h
  injection h with e1 e2
  injection e2 with e2 _
  subst e1 e2
  rw [uint_dec (u := o) (by unfold B at ho; omega)] at hn
  rw [atoi_itoa (e := k') (by omega) (by omega)] at hk
  injection hn with hn
  injection hk with hk
  subst hn hk
  rw [hs, hx r hI]
/-! the reference's way: two small numbers -/
/-- What 'small' gives: of a whole number's text the number. -/
def Sm (s : List UInt8) (most : Nat) (n : Int) (ok : Bool) : Prop := ∀ v : Int, -(10 : Int) ^ most < v → v < (10 : Int) ^ most → s = itoa v → n = v ∧ ok = true
theorem dec_itoa (o : Nat) : decDigits o = itoa (o : Int) := by unfold itoa; rw [if_neg (by omega)]; rfl
theorem none_ref {S a c : List UInt8} {m k : Int} {p q : Bool} (h1 : rest S ≠ sNan) (h2 : rest S ≠ sInf) (h : cut (rest S) [98] = (a, c, true)) (hm : Sm a 17 m p) (hk : Sm c 5 k q)
    (hbad : p = false ∨ q = false ∨ m < 0 ∨ 2 * (B : Int) < m ∨ k < -1074 ∨ 1023 < k) : pv S = (0, 16) := by
  refine pv_none fun b hb e => ?_
  obtain ⟨r, o, k', _, hr, ho, hk1, hk2, _⟩ := num_of hb e h1 h2
  rw [hr, cut_b _ _ (dec_ne98 o)] at h
  injection h with e1 e2
  injection e2 with e2 _
  subst e1 e2
  obtain ⟨a1, a2⟩ := hm o (by omega) (by unfold B at ho; omega) (dec_itoa o)
  obtain ⟨b1, b2⟩ := hk k' (by omega) (by omega) rfl
  subst a1 a2 b1 b2
  rcases hbad with h | h | h | h | h | h
  · cases h
  · cases h
  · omega
  · omega
  · omega
  · omega
theorem key_ref {S a c : List UInt8} {x : Nat} {m k : Int} (h1 : rest S ≠ sNan) (h2 : rest S ≠ sInf) (h : cut (rest S) [98] = (a, c, true)) (hm : Sm a 17 m true) (hk : Sm c 5 k true)
    (hx : ∀ r, Is m.toNat k r → x = r) : ∀ b, b < W64 → T b = S → can b = can (sg (neg S) x) := by
  intro b hb e
  obtain ⟨r, o, k', hs, hr, ho, hk1, hk2, hI⟩ := num_of hb e h1 h2
  rw [hr, cut_b _ _ (dec_ne98 o)] at h
  injection h with e1 e2
  injection e2 with e2 _
  subst e1 e2
  obtain ⟨a1, a2⟩ := hm o (by omega) (by unfold B at ho; omega) (dec_itoa o)
  obtain ⟨b1, b2⟩ := hk k' (by omega) (by omega) rfl
  subst a1 b1
  rw [hs, hx r hI]
end Go.FX
