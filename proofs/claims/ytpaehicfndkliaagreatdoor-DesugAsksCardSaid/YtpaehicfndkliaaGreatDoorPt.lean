
/- The texts of paths (plain); the walk of 'joined' for rows whose texts are known. Condition: the texts are not too long. -/
import Derived.Test.YtpaehicfndkliaaGreatDoorPi
import Derived.Test.YtpaehicfndkliaaGreatDoorPb
import Derived.Test.YtpaehicfndkliaaGreatDoorShelf
namespace Go.Proofs.YtpaehicfndkliaaGreatDoor.Pa
open Go.RowKit Go.Lib Na Go.PN

abbrev strV (l : List UInt8) : Value := .string ⟨l.toArray⟩
def bnd (k : Int) : Int := if k = 5 then 0 else if k = 4 then 1 else 2
def bodyT (k : Int) (l : ByteArray) (mn mx : Int) (s2 s1 : List (List UInt8)) : List UInt8 :=
  if k = 2 then nameT l.data.toList else if k = 3 then 94 :: nameT l.data.toList
  else if k = 4 then Lib.join s2 [47] else if k = 5 then Lib.join s1 [124]
  else if k = 6 then Lib.join s2 [] ++ [42] else if k = 7 then Lib.join s2 [] ++ [43] else if k = 8 then Lib.join s2 [] ++ [63]
  else if k = 9 then Lib.join s2 [] ++ [123] ++ itoa mn ++ [44] ++ (if mx = -1 then [] else itoa mx) ++ [125] else [40, 41]
/-- The texts of a row's paths at a place. -/
def tx : Fo → Int → List (List UInt8)
  | .nil, _ => []
  | .cons k l d mn mx r, p => (if bnd k < p then [40] ++ bodyT k l mn mx (tx d 2) (tx d 1) ++ [41] else bodyT k l mn mx (tx d 2) (tx d 1)) :: tx r p
def bodyN (k : Int) (l : ByteArray) (d : Fo) (mn mx : Int) : List UInt8 := bodyT k l mn mx (tx d 2) (tx d 1)
def txN (k : Int) (l : ByteArray) (d : Fo) (mn mx : Int) (p : Int) : List UInt8 := if bnd k < p then [40] ++ bodyN k l d mn mx ++ [41] else bodyN k l d mn mx
theorem tx_cons (k : Int) (l : ByteArray) (d : Fo) (mn mx : Int) (r : Fo) (p : Int) : tx (.cons k l d mn mx r) p = txN k l d mn mx p :: tx r p := rfl
theorem tx_app (f g : Fo) (p : Int) : tx (f.app g) p = tx f p ++ tx g p := by
  induction f with
  | nil => rfl
  | cons k l d mn mx r _ ih => rw [Fo.app, tx_cons, tx_cons, ih, List.cons_append]
theorem tx_len (f : Fo) (p : Int) : (tx f p).length = f.len := by
  induction f with
  | nil => rfl
  | cons k l d mn mx r _ ih => rw [tx_cons, List.length_cons, ih]; rfl
/-- What a row's texts weigh at most. -/
def Fo.wt : Fo → Nat
  | .nil => 0
  | .cons k l d _ _ r => (if k = 2 ∨ k = 3 then 3 * l.size else 0) + 60 + d.wt + r.wt
theorem Fo.app_wt (f g : Fo) : (f.app g).wt = f.wt + g.wt := by
  induction f with
  | nil => simp [Fo.app, Fo.wt]
  | cons k l kids mn mx rest _ ih => rw [Fo.app, Fo.wt, Fo.wt, ih]; omega
/-- The lengths of texts, one more each. -/
def lens1 (L : List (List UInt8)) : Nat := (L.map fun t => t.length + 1).sum
theorem lens1_cons (t : List UInt8) (L : List (List UInt8)) : lens1 (t :: L) = t.length + 1 + lens1 L := by simp [lens1]
theorem join_le (L : List (List UInt8)) (sep : List UInt8) (h : sep.length ≤ 1) : (Lib.join L sep).length ≤ lens1 L := by
  cases L with
  | nil => simp [join_nil]
  | cons x r =>
    rw [join_length, lens1_cons]
    have h1 : sep.length * r.length ≤ r.length := by
      have := Nat.mul_le_mul_right r.length h
      simpa using this
    have h2 : ∀ r : List (List UInt8), lens1 r = lens r + r.length := by
      intro r
      induction r with
      | nil => rfl
      | cons y r ih => rw [lens1_cons, ih]; simp [lens]; omega
    have h3 : lens (x :: r) = x.length + lens r := by simp [lens]
    have := h2 r
    omega
/-- The bounds of repeats are small. -/
def Vd : Fo → Prop
  | .nil => True
  | .cons k _ d mn mx r => (k = 9 → 0 ≤ mn ∧ mn ≤ 8 ∧ -1 ≤ mx ∧ mx ≤ 8) ∧ Vd d ∧ Vd r
theorem Vd.app {f g : Fo} (h : Vd (f.app g)) : Vd g := by
  induction f with
  | nil => exact h
  | cons k l d mn mx r _ ih => exact ih h.2.2
theorem itoa_1 (m : Int) (h : -1 ≤ m) (h2 : m ≤ 8) : (itoa m).length ≤ 2 := by
  rcases (show m = -1 ∨ m = 0 ∨ m = 1 ∨ m = 2 ∨ m = 3 ∨ m = 4 ∨ m = 5 ∨ m = 6 ∨ m = 7 ∨ m = 8 from by omega) with rfl | rfl | rfl | rfl | rfl | rfl | rfl | rfl | rfl | rfl <;> simp [itoa, decDigits]
theorem lens1_tx (f : Fo) (p : Int) (h : Vd f) : lens1 (tx f p) ≤ f.wt := by
  induction f generalizing p with
  | nil => exact Nat.le_refl _
  | cons k l d mn mx r ih1 ih2 =>
    rw [tx_cons, lens1_cons, Fo.wt]
    have hr := ih2 p h.2.2
    have h2 := ih1 2 h.2.1
    have h1 := ih1 1 h.2.1
    have hb : (bodyN k l d mn mx).length + 1 ≤ (if k = 2 ∨ k = 3 then 3 * l.size else 0) + 50 + d.wt := by
      have hn := (nameT_len l.data.toList).2
      have hs : l.data.toList.length = l.size := by simp
      rw [hs] at hn
      have j1 := join_le (tx d 2) [47] (by simp)
      have j2 := join_le (tx d 1) [124] (by simp)
      have j3 := join_le (tx d 2) [] (by simp)
      unfold bodyN bodyT
      by_cases k2 : k = 2
      · rw [if_pos k2, if_pos (Or.inl k2)]; omega
      by_cases k3 : k = 3
      · rw [if_neg k2, if_pos k3, if_pos (Or.inr k3), List.length_cons]; omega
      rw [if_neg k2, if_neg k3, if_neg (show ¬ (k = 2 ∨ k = 3) from by omega)]
      by_cases k9 : k = 9
      · have hm := h.1 k9
        have i1 := itoa_1 mn (by omega) (by omega)
        have i2 : (if mx = -1 then [] else itoa mx).length ≤ 2 := by
          split
          · simp
          · exact itoa_1 mx (by omega) (by omega)
        rw [if_neg (by omega), if_neg (by omega), if_neg (by omega), if_neg (by omega), if_neg (by omega), if_pos k9]
        simp only [List.length_append, List.length_cons, List.length_nil]
        omega
      · rw [if_neg k9]
        repeat' split
        all_goals first | omega | (simp only [List.length_append, List.length_cons, List.length_nil]; omega)
    unfold txN
    split
    · simp only [List.length_append, List.length_cons, List.length_nil]; omega
    · omega
theorem txN_len (k : Int) (l : ByteArray) (d : Fo) (mn mx : Int) (p : Int) (h : Vd (.cons k l d mn mx .nil)) : (txN k l d mn mx p).length ≤ (Fo.cons k l d mn mx .nil).wt := by
  have := lens1_tx _ p h
  rw [tx_cons, lens1_cons] at this
  omega
theorem own_below {w w' : World} {base B : Nat} {e : TypeId} {size : Nat} {v : Value} {n : Nat} {xs : List Value} (h : w.ownsRow base e size v n xs) (hb : Below B w w') (hB : w.heap.size ≤ B) : w'.ownsRow base e size v n xs := by
  obtain ⟨h1, h2⟩ := h
  refine ⟨h1, ?_⟩
  rcases h2 with h2 | ⟨g, cap, cur, hv, hg, hh, r⟩
  · exact Or.inl h2
  · have hlt : g < w.heap.size := (Array.getElem?_eq_some_iff.1 hh).1
    exact Or.inr ⟨g, cap, cur, hv, hg, by rw [hb.block g (by omega)]; exact hh, r⟩
theorem join_own {w : World} {base : Nat} {A : Option Addr} {n c : Nat} {L : List (List UInt8)} (hown : w.ownsRow base 9 1 (.slice A n c) n (L.map strV)) (sep : List UInt8) (hn : n ≤ 1000000) (hl : (Lib.join L sep).length ≤ 1000000000) :
    Calls Tryz.prog 128 #[.slice A n c, .string ⟨sep.toArray⟩] w fun e w' => e = .returned (strV (Lib.join L sep)) ∧ Below w.heap.size w w' := by
  have hL : L.length = n := by have := hown.1; simpa using this
  rcases Nat.eq_zero_or_pos n with h0 | h0
  · subst h0
    have : L = [] := List.eq_nil_of_length_eq_zero hL
    subst this
    exact (Tryz.strings_Join_none A c _ w).mono fun e w' h => ⟨h.1, by rw [h.2]; exact Below.refl _ _⟩
  · obtain ⟨g, cap, hv, _, hlt⟩ := hown.form h0
    have hA : A = some ⟨g, 0, none⟩ := by injection hv
    subst hA
    obtain ⟨A2, c2, hv2, hc2⟩ := own_slice hown
    injection hv2 with e1 e2 e3
    subst e3
    have hX : (L.map fun t => (⟨t.toArray⟩ : ByteArray)).map (·.data.toList) = L := by
      rw [List.map_map]
      exact List.map_id'' (fun _ => rfl) L |>.trans rfl
    have h := Tryz.strings_Join g 0 c (L.map fun t => (⟨t.toArray⟩ : ByteArray)) ⟨sep.toArray⟩ w (fun j x hj => by
        have := hown.cells (g := g) rfl j (.string x) (by
          rw [List.getElem?_map] at hj ⊢
          cases hx : L[j]? with
          | none => rw [hx] at hj; cases hj
          | some t => rw [hx] at hj; injection hj with hj; subst hj; rfl)
        have e : (⟨g, 0, none⟩ : Addr).add j = ⟨g, 0 + j, none⟩ := by unfold Addr.add; split <;> simp_all
        rwa [e] at this) hlt (by rw [List.length_map]; omega) (by rw [List.length_map]; omega) (by rw [hX]; exact Nat.le_trans hl (by decide))
    rw [List.length_map, hL, hX] at h
    exact h
end Go.Proofs.YtpaehicfndkliaaGreatDoor.Pa
