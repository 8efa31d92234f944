/- Plain facts on the greatest product of pairs: none is greater, one is as great, and the order does not count. Condition: the products are such. -/
import Derived.Test.YtlbakakfjcmldaaWj
namespace Go.Proofs.Ytlbakakfjcmldaa
open Go.RowKit Go.FT Go.ChangeShapes Go.WideShapes

def dotP : Nat → List (Nat × Nat) → Nat × Int
  | s, [] => (s, 0)
  | s, p :: l => if te p.1 p.2 = 0 then dotP (max s (tv p.1 p.2)) l else (0, te p.1 p.2)
theorem dotG_zip : ∀ (xs ys : List Nat) (s : Nat), dotG s xs ys = dotP s (xs.zip ys)
  | [], _, _ => rfl
  | _ :: _, [], _ => rfl
  | x :: a, y :: b, s => by
    rw [dotG, List.zip_cons_cons, dotP]
    by_cases h : te x y = 0
    · rw [if_pos h, if_pos h]; exact dotG_zip a b _
    · rw [if_neg h, if_neg h]
def mxP : Nat → List (Nat × Nat) → Nat
  | s, [] => s
  | s, p :: l => mxP (max s (tv p.1 p.2)) l
theorem dotP_all : ∀ (l : List (Nat × Nat)) (s : Nat), (∀ p ∈ l, te p.1 p.2 = 0) → dotP s l = (mxP s l, 0)
  | [], _, _ => rfl
  | p :: l, s, h => by
    rw [dotP, if_pos (h p (List.mem_cons_self ..))]
    exact dotP_all l _ (fun q hq => h q (List.mem_cons_of_mem _ hq))
theorem te_one (x y : Nat) : te x y = 0 ∨ te x y = 16 := by unfold te; split <;> simp
theorem dotP_err : ∀ (l : List (Nat × Nat)) (s : Nat), (dotP s l).2 ≠ 0 → dotP s l = (0, 16)
  | [], _, h => absurd rfl h
  | p :: l, s, h => by
    rw [dotP] at h ⊢
    by_cases e : te p.1 p.2 = 0
    · rw [if_pos e] at h ⊢; exact dotP_err l _ h
    · rw [if_neg e]
      rcases te_one p.1 p.2 with a | a
      · exact absurd a e
      · rw [a]
theorem dotP_ok : ∀ (l : List (Nat × Nat)) (s : Nat), (dotP s l).2 = 0 → ∀ p ∈ l, te p.1 p.2 = 0
  | [], _, _ => by simp
  | p :: l, s, h => by
    rw [dotP] at h
    by_cases e : te p.1 p.2 = 0
    · rw [if_pos e] at h
      intro q hq
      rcases List.mem_cons.1 hq with rfl | hq
      · exact e
      · exact dotP_ok l _ h q hq
    · rw [if_neg e] at h; exact absurd h e
theorem mxP_le : ∀ (l : List (Nat × Nat)) (s b : Nat), s ≤ b → (∀ p ∈ l, tv p.1 p.2 ≤ b) → mxP s l ≤ b
  | [], _, _, h, _ => h
  | p :: l, _, b, h, hp => mxP_le l _ b (Nat.max_le.2 ⟨h, hp p (List.mem_cons_self ..)⟩) (fun q hq => hp q (List.mem_cons_of_mem _ hq))
theorem mxP_ge : ∀ (l : List (Nat × Nat)) (s : Nat), s ≤ mxP s l ∧ ∀ p ∈ l, tv p.1 p.2 ≤ mxP s l
  | [], _ => ⟨Nat.le_refl _, by simp⟩
  | p :: l, s => by
    obtain ⟨a, b⟩ := mxP_ge l (max s (tv p.1 p.2))
    refine ⟨Nat.le_trans (Nat.le_max_left _ _) a, fun q hq => ?_⟩
    rcases List.mem_cons.1 hq with rfl | hq
    · exact Nat.le_trans (Nat.le_max_right _ _) a
    · exact b q hq
theorem mxP_met : ∀ (l : List (Nat × Nat)) (s : Nat), mxP s l = s ∨ ∃ p ∈ l, mxP s l = tv p.1 p.2
  | [], _ => .inl rfl
  | p :: l, s => by
    rcases mxP_met l (max s (tv p.1 p.2)) with h | ⟨q, hq, h⟩
    · by_cases e : s ≤ tv p.1 p.2
      · exact .inr ⟨p, List.mem_cons_self .., by show mxP _ l = _; rw [h, Nat.max_eq_right e]⟩
      · exact .inl (by show mxP _ l = _; rw [h, Nat.max_eq_left (by omega)])
    · exact .inr ⟨q, List.mem_cons_of_mem _ hq, h⟩
theorem mxP_some {l : List (Nat × Nat)} (h : l ≠ []) : ∃ p ∈ l, tv p.1 p.2 = mxP 0 l := by
  rcases mxP_met l 0 with h0 | ⟨p, hp, e⟩
  · cases l with
    | nil => exact absurd rfl h
    | cons p l =>
      refine ⟨p, List.mem_cons_self .., ?_⟩
      have := (mxP_ge (p :: l) 0).2 p (List.mem_cons_self ..)
      omega
  · exact ⟨p, hp, e.symm⟩
theorem dotP_same {l m : List (Nat × Nat)} (h1 : ∀ p ∈ m, (p.2, p.1) ∈ l) (h2 : ∀ p ∈ l, (p.2, p.1) ∈ m) (hl : (dotP 0 l).2 = 0) : dotP 0 m = dotP 0 l := by
  have a := dotP_ok l 0 hl
  have b : ∀ p ∈ m, te p.1 p.2 = 0 := fun p hp => by have := a _ (h1 p hp); rwa [te_comm] at this
  rw [dotP_all l 0 a, dotP_all m 0 b]
  have e : mxP 0 m = mxP 0 l := Nat.le_antisymm
    (mxP_le m 0 _ (by omega) (fun p hp => by rw [tv_comm]; exact (mxP_ge l 0).2 _ (h1 p hp)))
    (mxP_le l 0 _ (by omega) (fun p hp => by rw [tv_comm]; exact (mxP_ge m 0).2 _ (h2 p hp)))
  rw [e]
theorem mem_zip_swap : ∀ (xs ys : List Nat) (p : Nat × Nat), p ∈ ys.zip xs → (p.2, p.1) ∈ xs.zip ys
  | [], [], _, h => by simp at h
  | [], _ :: _, _, h => by simp at h
  | _ :: _, [], _, h => by simp at h
  | x :: a, y :: b, p, h => by
    rw [List.zip_cons_cons] at h ⊢
    rcases List.mem_cons.1 h with rfl | h
    · exact List.mem_cons_self ..
    · exact List.mem_cons_of_mem _ (mem_zip_swap a b p h)
theorem zip_rot {xs ys : List Nat} (h : xs.length = ys.length) (k : Nat) :
    (ys.drop k ++ ys.take k).zip (xs.drop k ++ xs.take k) = (ys.zip xs).drop k ++ (ys.zip xs).take k := by
  rw [List.zip_append (by simp [h])]
  unfold List.zip
  rw [List.drop_zipWith, List.take_zipWith]
theorem mem_rot {α : Type} (l : List α) (k : Nat) (p : α) : p ∈ l.drop k ++ l.take k ↔ p ∈ l := by
  rw [List.mem_append, Or.comm, ← List.mem_append, List.take_append_drop]
theorem dotF_rot {xs ys : List Nat} (h : xs.length = ys.length) (k : Nat) (h0 : (dotF xs ys).2 = 0) : dotF (ys.drop k ++ ys.take k) (xs.drop k ++ xs.take k) = dotF xs ys := by
  have hl : (ys.drop k ++ ys.take k).length = (xs.drop k ++ xs.take k).length := by simp [h]
  unfold dotF at h0 ⊢
  rw [if_pos h] at h0 ⊢
  rw [if_pos hl, dotG_zip, dotG_zip, zip_rot h]
  rw [dotG_zip] at h0
  refine dotP_same (fun p hp => ?_) (fun p hp => ?_) h0
  · exact mem_zip_swap xs ys p ((mem_rot _ k p).1 hp)
  · exact (mem_rot _ k _).2 (mem_zip_swap ys xs p hp)
/-- What the law asks of the pairs one by one. -/
theorem dotF_pairs {xs ys : List Nat} (h : xs.length = ys.length) (hne : xs.length ≠ 0) (h0 : (dotF xs ys).2 = 0) :
    (∀ k, k < xs.length → te (xs.getD k 0) (ys.getD k 0) = 0 ∧ tv (xs.getD k 0) (ys.getD k 0) ≤ (dotF xs ys).1) ∧ (dotF xs ys).1 ≤ ONE ∧
    ∃ k, k < xs.length ∧ tv (xs.getD k 0) (ys.getD k 0) = (dotF xs ys).1 := by
  unfold dotF at h0 ⊢
  rw [if_pos h] at h0 ⊢
  rw [dotG_zip] at h0 ⊢
  have a := dotP_ok _ _ h0
  rw [dotP_all _ 0 a]
  have hlen : (xs.zip ys).length = xs.length := by simp [h]
  have hget : ∀ k, k < xs.length → (xs.getD k 0, ys.getD k 0) ∈ xs.zip ys := by
    intro k hk
    have hk' : k < (xs.zip ys).length := by omega
    have : (xs.zip ys)[k] = (xs.getD k 0, ys.getD k 0) := by
      rw [List.getElem_zip]
      simp [List.getD_eq_getElem?_getD, hk, h ▸ hk]
    rw [← this]; exact List.getElem_mem hk'
  refine ⟨fun k hk => ⟨a _ (hget k hk), (mxP_ge _ 0).2 _ (hget k hk)⟩, mxP_le _ 0 _ (by omega) (fun p _ => tv_le), ?_⟩
  obtain ⟨p, hp, e⟩ := mxP_some (l := xs.zip ys) (by intro e; rw [e] at hlen; simp at hlen; omega)
  obtain ⟨k, hk, hpk⟩ := List.mem_iff_getElem.1 hp
  have hk' : k < xs.length := by omega
  refine ⟨k, hk', ?_⟩
  have : (xs.zip ys)[k] = (xs.getD k 0, ys.getD k 0) := by
    rw [List.getElem_zip]
    simp [List.getD_eq_getElem?_getD, hk', h ▸ hk']
  rw [← e, ← hpk, this]
theorem dotF_err {xs ys : List Nat} (h0 : (dotF xs ys).2 ≠ 0) : dotF xs ys = (0, 16) := by
  unfold dotF at h0 ⊢
  by_cases h : xs.length = ys.length
  · rw [if_pos h, dotG_zip] at h0 ⊢; exact dotP_err _ _ h0
  · rw [if_neg h]
end Go.Proofs.Ytlbakakfjcmldaa
