/- Plain facts on the sum of a row of prices: it is not below any of them; what comes behind is added to it; it fails just if one of them is no price. Condition: the number begun with is one from 0 to infinity. -/
import Derived.Test.YtlbakakfjcmldaaWi
namespace Go.Proofs.Ytlbakakfjcmldaa
open Go.RowKit Go.FT Go.ChangeShapes Go.WideShapes

theorem ok_self {s m : Nat} (h : s ≤ m) : okB s m = true := decide_eq_true (Or.inl h)
theorem clr_id {s : Nat} (h : s ≤ INF) : clr s = s := by unfold clr; rw [if_neg]; unfold SGN INF at *; omega
theorem pe_cases {s : Nat} (hs : s ≤ INF) (x : Nat) : (okB x INF = true ∧ pe s x = 0 ∧ pv s x = addR s (clr x) ∧ we x INF = 0) ∨ (okB x INF = false ∧ pe s x = 16 ∧ we x INF = 16) := by
  cases h : okB x INF
  · exact .inr ⟨rfl, (pv_no (.inr h)).2, we_no h⟩
  · have := pv_yes (ok_self hs) h
    rw [clr_id hs] at this
    exact .inl ⟨rfl, this.2, this.1, we_yes h⟩

theorem pathG_err : ∀ (xs : List Nat) (s : Nat), s ≤ INF → (pathG s xs).2 ≠ 0 → (pathG s xs).1 = 0 ∧ (pathG s xs).2 = 16 ∧ ∃ x ∈ xs, we x INF = 16
  | [], s, _, h => absurd rfl h
  | x :: t, s, hs, h => by
    rcases pe_cases hs x with ⟨h1, h2, h3, h4⟩ | ⟨h1, h2, h4⟩
    · rw [pathG_ok h2] at h ⊢
      obtain ⟨a, b, y, hy, hw⟩ := pathG_err t (pv s x) pv_le h
      exact ⟨a, b, y, List.mem_cons_of_mem _ hy, hw⟩
    · rw [pathG_no (by rw [h2]; decide)]
      exact ⟨rfl, h2, x, List.mem_cons_self .., h4⟩

theorem pathG_sum : ∀ (xs : List Nat) (s : Nat), s ≤ INF → (pathG s xs).2 = 0 →
    (∀ x ∈ xs, okB x INF = true ∧ clr x ≤ (pathG s xs).1) ∧ s ≤ (pathG s xs).1 ∧ (pathG s xs).1 ≤ INF ∧ ∀ ys, pathG s (xs ++ ys) = pathG (pathG s xs).1 ys
  | [], s, hs, _ => ⟨by simp, Nat.le_refl _, hs, fun _ => rfl⟩
  | x :: t, s, hs, h => by
    rcases pe_cases hs x with ⟨h1, h2, h3, h4⟩ | ⟨h1, h2, h4⟩
    · rw [pathG_ok h2] at h
      obtain ⟨a, b, c, d⟩ := pathG_sum t (pv s x) pv_le h
      rw [pathG_ok h2]
      have l1 : s ≤ pv s x := by rw [h3]; exact addR_ge hs
      have l2 : clr x ≤ pv s x := by rw [h3, addR_comm]; exact addR_ge (clr_le h1)
      refine ⟨fun y hy => ?_, by omega, c, fun ys => ?_⟩
      · rcases List.mem_cons.1 hy with rfl | hy
        · exact ⟨h1, by omega⟩
        · exact a y hy
      · rw [List.cons_append, pathG_ok h2]; exact d ys
    · rw [pathG_no (by rw [h2]; decide)] at h
      rw [h2] at h; cases h
theorem pathG_inf {s : Nat} (hs : s ≤ INF) : pathG s [INF] = (INF, 0) := by
  have h : okB INF INF = true := by decide
  have hp := pv_yes (ok_self hs) h
  rw [pathG_ok hp.2, hp.1, clr_id (Nat.le_refl INF), addR_inf_right]; rfl

theorem path_n (A : Option Addr) (n c : Nat) (xs : List Nat) (w : World) {B : Nat} (hr : Reads w B 1 A n (xs.map (Value.float .f64))) (hx : ∀ x ∈ xs, x < W64) (hn : n ≤ 9223372036854775807) :
    Calls Try.prog 16 #[.slice A n c] w fun e w' => e = .returned (.tuple #[.float .f64 (pathG 0 xs).1, .int .i64 (pathG 0 xs).2]) ∧ w = w' := by
  have e : n = xs.length := by have := hr.1; simpa using this.symm
  subst e
  exact path_any A c xs w (Rd.of_reads hr) hx hn

theorem dot_n (A A' : Option Addr) (n n' c c' : Nat) (xs ys : List Nat) (w : World) {B B' : Nat} (hr : Reads w B 1 A n (xs.map (Value.float .f64))) (hr' : Reads w B' 1 A' n' (ys.map (Value.float .f64))) (hx : ∀ x ∈ xs, x < W64) (hy : ∀ x ∈ ys, x < W64) (hn : n ≤ 9223372036854775807) (hn' : n' ≤ 9223372036854775807) :
    Calls Try.prog 20 #[.slice A n c, .slice A' n' c'] w fun e w' => e = .returned (.tuple #[.float .f64 (dotF xs ys).1, .int .i64 (dotF xs ys).2]) ∧ w = w' := by
  have e : n = xs.length := by have := hr.1; simpa using this.symm
  have e' : n' = ys.length := by have := hr'.1; simpa using this.symm
  subst e e'
  exact dot_any A A' c c' xs ys w (Rd.of_reads hr) (Rd.of_reads hr') hx hy hn hn'
theorem rot_lt {l : List Nat} (h : ∀ x ∈ l, x < W64) (k : Nat) : ∀ x ∈ l.drop k ++ l.take k, x < W64 := by
  intro x hx
  rcases List.mem_append.1 hx with hx | hx
  · exact h x (List.mem_of_mem_drop hx)
  · exact h x (List.mem_of_mem_take hx)
end Go.Proofs.Ytlbakakfjcmldaa
