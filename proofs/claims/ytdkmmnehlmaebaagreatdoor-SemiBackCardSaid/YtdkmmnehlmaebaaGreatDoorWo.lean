
/- A value that came in, opened. Condition: it is laid. -/
import Derived.Test.YtdkmmnehlmaebaaGreatDoorWm
namespace Go.Proofs.YtdkmmnehlmaebaaGreatDoor.Na
open Go.RowKit Go.NT Go.Lib

theorem open_reads1 {H : Type} {enc : TypeId × Value → H} {P : Program} {W : World} {t e : TypeId} {v : Value} {n0 : Nat} {y0 : DataW H × List MemPlace} {α : Type} [Inhabited α] (mk : α → Value) (Q : α → Prop)
    (ht : P.underlying t = some (.slice e)) (hc : P.cellsOf e = 1) (hf : DataW.trod enc P W 0 (fun _ => true) true n0 t [v] = some y0)
    (hel : ∀ n u y, DataW.trod enc P W 0 (fun _ => true) true n e [u] = some y → ∃ x, u = mk x ∧ Q x) :
    ∃ (A : Option Addr) (xs : List α) (c : Nat), v = .slice A xs.length c ∧ Reads W W.heap.size 1 A xs.length (xs.map mk) ∧ (∀ x ∈ xs, Q x) ∧ xs.length ≤ maxLen ∧ xs.length ≤ c := by
  rcases Go.Deep.open_slice1 ht hc hf with ⟨hcs, _⟩ | ⟨a', len', cap', m, n, V, D, Pl, hcs, _, hl, hm, hmm, _, hi⟩
  · obtain rfl : v = .slice none 0 0 := by simpa using hcs
    exact ⟨none, [], 0, rfl, Reads.none_, by simp, by simp [maxLen], by simp⟩
  · obtain rfl : v = .slice (some a') len' cap' := by simpa using hcs
    have hmm' : m = cap' := by simpa using hmm
    subst hmm'
    obtain ⟨f, hf⟩ := Go.Deep.choose_lt (α := α) (n := m) (p := fun i x => V i = mk x ∧ Q x) (fun i him => hel n _ _ (hi i him).2)
    have hlen : ((List.range len').map f).length = len' := by simp
    refine ⟨some a', (List.range len').map f, m, by rw [hlen], ⟨by simp, fun hpos => ⟨a', rfl, ?_, ?_⟩⟩, ?_, ?_, ?_⟩
    · rw [hlen] at hpos
      have := block_lt_of_cell (hi 0 (by omega)).1
      rwa [block_of_add] at this
    · intro j u hu
      have hj : j < len' := by
        have := (List.getElem?_eq_some_iff.1 hu).1
        simpa using this
      have hv : u = mk (f j) := by
        rw [List.map_map, List.getElem?_map, List.getElem?_range hj] at hu
        exact (Option.some.inj hu).symm
      rw [hv, ← (hf j (by omega)).1]
      exact (hi j (by omega)).1
    · intro x hx
      obtain ⟨j, hj, rfl⟩ := List.mem_map.1 hx
      exact (hf j (by have := List.mem_range.1 hj; omega)).2
    · rw [hlen]; omega
    · rw [hlen]; exact hl

end Go.Proofs.YtdkmmnehlmaebaaGreatDoor.Na
namespace Go.Proofs.YtdkmmnehlmaebaaGreatDoor.Se
open Go.ChangeShapes Go.WideShapes Go.ChangeAt Go.RowKit Go.NT Go.FT Na

/-- A double that came in. -/
theorem came_double {H : Type} {enc : TypeId × Value → H} {W : World} {n : Nat} {t : TypeId} {cs : List Value} {y : DataW H × List MemPlace} (ht : Tryz.prog.underlying t = some (.float .f64)) (h : DataW.trod enc Tryz.prog W 0 (fun _ => true) true n t cs = some y) :
    ∃ x, cs = [.float .f64 x] ∧ (Lit.float .f64 x).wf = true := by
  cases n with
  | zero => simp [DataW.trod] at h
  | succ m =>
    unfold DataW.trod at h
    rw [ht] at h
    split at h <;> simp_all
theorem cellsN : Tryz.prog.cellsOf 24 = 2 := by kernel_rfl
theorem cellsV : Tryz.prog.cellsOf 27 = 5 := by kernel_rfl
theorem cellsI : Tryz.prog.cellsOf 3 = 1 := by kernel_rfl
theorem cellsF : Tryz.prog.cellsOf 25 = 1 := by kernel_rfl
theorem cellsB : Tryz.prog.cellsOf 4 = 1 := by kernel_rfl
theorem cellsS : Tryz.prog.cellsOf 22 = 1 := by kernel_rfl
theorem cellsU : Tryz.prog.cellsOf 67 = 1 := by kernel_rfl
theorem array5 {α : Type} {cs : Array α} (h : cs.size = 5) : ∃ a b c d e, cs = #[a, b, c, d, e] := by
  obtain ⟨l⟩ := cs
  match l, h with
  | [a, b, c, d, e], _ => exact ⟨a, b, c, d, e, rfl⟩
set_option maxRecDepth 100000 in
theorem open_value {H : Type} {enc : TypeId × Value → H} {W : World} {r : Reach} {b0 : Nat} {v : Value} {d : DataW H} {ps : List MemPlace}
    (hval : Value.okWide Tryz.prog W r b0 27 v) (h : DataW.Trod enc Tryz.prog W 0 (fun _ => true) true 27 v d ps) :
    ∃ x : SV, v = x.v ∧ x.ok W := by
  obtain ⟨cs, rfl, hsz⟩ := okWide_struct Tryz.underlying27 hval
  obtain ⟨c0, c1, c2, c3, c4, rfl⟩ := array5 (hsz.trans cellsV)
  obtain ⟨fuel, hf⟩ := h
  obtain ⟨y0, y1, y2, y3, n, hx, _, h0, h1, h2, h3⟩ := Go.Joins.trod_struct4 Tryz.underlying27 hf
  have k0 : DataW.trod enc Tryz.prog W 0 (fun _ => true) true n 3 [c0] = some y0 := by simpa [Value.cells, cellsI] using h0
  have k1 : DataW.trod enc Tryz.prog W 0 (fun _ => true) true n 24 [c1, c2] = some y1 := by simpa [Value.cells, cellsN] using h1
  have k2 : DataW.trod enc Tryz.prog W 0 (fun _ => true) true n 3 [c3] = some y2 := by simpa [Value.cells, cellsI] using h2
  have k3 : DataW.trod enc Tryz.prog W 0 (fun _ => true) true n 25 [c4] = some y3 := by simpa [Value.cells, cellsF] using h3
  obtain ⟨z0, z1, n2, hz, _, g0, g1⟩ := trod_struct2 Tryz.underlying24 k1
  have m0 : DataW.trod enc Tryz.prog W 0 (fun _ => true) true n2 4 [c1] = some z0 := by simpa [cellsB] using g0
  have m1 : DataW.trod enc Tryz.prog W 0 (fun _ => true) true n2 22 [c2] = some z1 := by simpa [cellsS] using g1
  obtain ⟨b, hb, _⟩ := DataW.trod_bool Tryz.underlying4 m0
  obtain rfl : c1 = .bool b := by simpa using hb
  obtain ⟨A, xs, c, rfl, hr, hq, hl, hc⟩ := Na.open_reads1 (Value.int .u32) (fun x => (Lit.int .u32 x).wf = true) Tryz.underlying22 cellsU m1 (cell_int Tryz.underlying67)
  obtain ⟨s, hs0, _⟩ := DataW.trod_int Tryz.underlying3 k0
  obtain ⟨lv, hlv, _⟩ := DataW.trod_int Tryz.underlying3 k2
  obtain ⟨x, hx0, hxw⟩ := came_double Tryz.underlying25 k3
  obtain rfl : c0 = .int .i64 s := by simpa using hs0
  obtain rfl : c3 = .int .i64 lv := by simpa using hlv
  obtain rfl : c4 = .float .f64 x := by simpa using hx0
  refine ⟨⟨s, b, A, xs.length, c, xs, lv, x⟩, rfl, ⟨hr, hc, fun u hu => ?_, by simpa [maxLen] using hl⟩, (by simpa [Lit.wf] using hxw)⟩
  have := hq u hu
  have hm : IntKind.u32.min = 0 := by decide
  have hM : IntKind.u32.max = 4294967295 := by decide
  simp [Lit.wf, hm, hM] at this
  show 0 ≤ u ∧ u < 4294967296
  omega
end Go.Proofs.YtdkmmnehlmaebaaGreatDoor.Se
