/- A number that came in, opened: its flag, and digits that read. No condition. -/
import Derived.Test.YtdpheomokeikbaaDoorWf
import Derived.Test.YtdpheomokeikbaaDoorWa
import Derived.Lib.SmallJoins
namespace Go.Proofs.YtdpheomokeikbaaDoor
open Go.ChangeShapes Go.WideShapes Go.ChangeAt Go.RowKit Go.NT

/-- A slice of one-cell elements inside a struct that came in. -/
theorem open_reads1 {H : Type} {enc : TypeId × Value → H} {P : Program} {W : World} {t e : TypeId} {v : Value} {n0 : Nat} {y0 : DataW H × List MemPlace} {α : Type} [Inhabited α] (mk : α → Value) (Q : α → Prop)
    (ht : P.underlying t = some (.slice e)) (hc : P.cellsOf e = 1) (hf : DataW.trod enc P W 0 (fun _ => true) true n0 t [v] = some y0)
    (hel : ∀ n u y, DataW.trod enc P W 0 (fun _ => true) true n e [u] = some y → ∃ x, u = mk x ∧ Q x) :
    ∃ (A : Option Addr) (xs : List α) (c : Nat), v = .slice A xs.length c ∧ Reads W W.heap.size 1 A xs.length (xs.map mk) ∧ (∀ x ∈ xs, Q x) ∧ xs.length ≤ maxLen ∧ xs.length ≤ c := by
  rcases Go.Deep.open_slice1 ht hc hf with ⟨hcs, _⟩ | ⟨a', len', cap', m, n, V, D, Pl, hcs, _, hl, hm, hmm, _, hi⟩
  · obtain rfl : v = .slice none 0 0 := by simpa using hcs
    exact ⟨none, [], 0, rfl, Reads.none_, by simp, by simp [maxLen], by simp⟩
  · obtain rfl : v = .slice (some a') len' cap' := by simpa using hcs
    have hmm' : m = cap' := by simpa using hmm
    subst hmm'
    obtain ⟨f, hf⟩ := Go.Deep.choose_lt (α := α) (n := m) (p := fun i x => V i = mk x ∧ Q x) (fun i him => hel n _ _ (hi i him).2)
    have hlen : ((List.range len').map f).length = len' := by simp
    refine ⟨some a', (List.range len').map f, m, by rw [hlen], ⟨by simp, fun hpos => ⟨a', rfl, ?_, ?_⟩⟩, ?_, ?_, ?_⟩
    · rw [hlen] at hpos
      have := block_lt_of_cell (hi 0 (by omega)).1
      rwa [block_of_add] at this
    · intro j u hu
      have hj : j < len' := by
        have := (List.getElem?_eq_some_iff.1 hu).1
        simpa using this
      have hv : u = mk (f j) := by
        rw [List.map_map, List.getElem?_map, List.getElem?_range hj] at hu
        exact (Option.some.inj hu).symm
      rw [hv, ← (hf j (by omega)).1]
      exact (hi j (by omega)).1
    · intro x hx
      obtain ⟨j, hj, rfl⟩ := List.mem_map.1 hx
      exact (hf j (by have := List.mem_range.1 hj; omega)).2
    · rw [hlen]; omega
    · rw [hlen]; exact hl
theorem cells24 : Tryd.prog.cellsOf 24 = 2 := by kernel_rfl
theorem cells60 : Tryd.prog.cellsOf 60 = 1 := by kernel_rfl
set_option maxRecDepth 100000 in
theorem open_nat {H : Type} {enc : TypeId × Value → H} {W : World} {r : Reach} {b0 : Nat} {v : Value} {d : DataW H} {ps : List MemPlace}
    (hval : Value.okWide Tryd.prog W r b0 24 v) (h : DataW.Trod enc Tryd.prog W 0 (fun _ => true) true 24 v d ps) :
    ∃ (b : Bool) (A : Option Addr) (n c : Nat) (xs : List Int), v = .agg #[.bool b, .slice A n c] ∧ NV W A n c xs := by
  obtain ⟨v0, v1, y0, y1, n, rfl, _, _, h0, h1⟩ := Go.Joins.open_agg2 Tryd.underlying24 (by kernel_rfl) cells24 hval h
  obtain ⟨b, hb, _⟩ := DataW.trod_bool Tryd.underlying4 h0
  obtain rfl : v0 = .bool b := by simpa using hb
  obtain ⟨A, xs, c, rfl, hr, hq, hl, hc⟩ := open_reads1 (Value.int .u32) (fun x => (Lit.int .u32 x).wf = true) Tryd.underlying22 cells60 h1 (cell_int Tryd.underlying60)
  refine ⟨b, A, _, c, xs, rfl, hr, hc, fun x hx => ?_, by simpa [maxLen] using hl⟩
  have := hq x hx
  have hm : IntKind.u32.min = 0 := by decide
  have hM : IntKind.u32.max = 4294967295 := by decide
  simp [Lit.wf, hm, hM] at this
  show 0 ≤ x ∧ x < 4294967296
  omega
end Go.Proofs.YtdpheomokeikbaaDoor
