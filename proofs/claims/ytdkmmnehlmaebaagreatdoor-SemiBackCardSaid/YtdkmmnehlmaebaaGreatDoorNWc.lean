import Derived.WalkKit
import Derived.ProofKit
import Derived.Below
import Derived.Laws.OwnMore
import Derived.Deep.AppendLies
import Derived.Deep.Draws
import Derived.Laws.Rows
import Derived.Maps.AppendAt
import Derived.RegionTactic
import Derived.OwnWalk
import Derived.Deep.Slices
import Derived.Laws.Cover2
import Derived.Lib.Hide
import Derived.Test.YtdkmmnehlmaebaaGreatDoorRows
import Derived.Test.YtdkmmnehlmaebaaGreatDoorNTx
import Derived.WalkSpells
import Derived.WalkLawsBesides
import Derived.LoopTactic
import Derived.Deep.QuietTactic
import Derived.BigQuiet
import Derived.Outline
import Derived.WalkSmall
import Derived.Lib.SliceRun

/- Words for memory: a slice that reads as a list, a block known whole, an append onto a row of the call's own; a slice of one-cell elements that came in, opened. No condition. -/
namespace Go.Proofs.YtdkmmnehlmaebaaGreatDoor.Na
open Go.RowKit Go.ChangeShapes Go.WideShapes
theorem block_of_add (a : Addr) (n : Nat) : (a.add n).block = a.block := by unfold Addr.add; split <;> rfl
theorem add_of_add (a : Addr) (i j : Nat) : (a.add i).add j = a.add (i + j) := by
  unfold Addr.add
  by_cases hi : i = 0 <;> by_cases hj : j = 0 <;> simp [hi, hj, Nat.add_assoc]

def Reads (w : World) (B size : Nat) (A : Option Addr) (n : Nat) (xs : List Value) : Prop :=
  xs.length = n * size ∧ (0 < n → ∃ ad, A = some ad ∧ ad.block < B ∧ ∀ j u, xs[j]? = some u → w.cell? (ad.add j) = some u)

section
variable {w w' : World} {B B' size n : Nat} {A : Option Addr} {xs : List Value}
theorem Reads.none_ : Reads w B size A 0 [] := ⟨by simp, fun h => absurd h (by omega)⟩
theorem Reads.at_ {k : Nat} (h : Reads w B 1 A n xs) (hk : k < n) : ∃ ad u, A = some ad ∧ ad.block < B ∧ xs[k]? = some u ∧ w.cell? (ad.add k) = some u := by
  obtain ⟨ad, e, hb, hc⟩ := h.2 (by omega)
  have hl : k < xs.length := by have := h.1; omega
  exact ⟨ad, xs[k], e, hb, List.getElem?_eq_getElem hl, hc k _ (List.getElem?_eq_getElem hl)⟩
theorem Reads.keep (h : Reads w B size A n xs) (hk : ∀ p : Addr, p.block < B → w'.cell? p = w.cell? p) : Reads w' B size A n xs :=
  ⟨h.1, fun hn => by
    obtain ⟨ad, e, hb, hc⟩ := h.2 hn
    exact ⟨ad, e, hb, fun j u hu => (hk _ (by rw [block_of_add]; exact hb)).trans (hc j u hu)⟩⟩
theorem Reads.more (h : Reads w B size A n xs) (hB : B ≤ B') : Reads w B' size A n xs :=
  ⟨h.1, fun hn => by
    obtain ⟨ad, e, hb, hc⟩ := h.2 hn
    exact ⟨ad, e, by omega, hc⟩⟩
theorem Reads.below (h : Reads w B size A n xs) (hb : Below B w w') : Reads w' B size A n xs := h.keep fun _ hp => hb.cell hp
theorem Reads.drew (h : Reads w B size A n xs) : Reads w.drew B size A n xs := h
theorem Reads.drewN (h : Reads w B size A n xs) (k : Nat) : Reads (w.drewN k) B size A n xs := h
theorem Reads.alloc (h : Reads w B size A n xs) (hB : B ≤ w.heap.size) (o : Obj) : Reads (w.alloc o) B size A n xs := h.keep fun p hp => World.cell?_alloc_lt w o p (by omega)
theorem Reads.setCell (h : Reads w B size A n xs) {p : Addr} (hB : B ≤ p.block) (u : Value) : Reads (w.setCell p u) B size A n xs :=
  h.keep fun q hq => World.cell?_setCell_other w p q u (fun e => by subst e; omega)
theorem Reads.grown (h : Reads w B size A n xs) {row : Option Nat} (hg : w.grownBy w' row) (hB : B ≤ w.heap.size) (hr : ∀ g, row = some g → B ≤ g) : Reads w' B size A n xs :=
  h.keep fun p hp => World.cell?_of_block (hg.block p.block (by omega) (fun e => by have := hr _ e.symm; omega))
theorem Reads.cut (h : Reads w B size A n xs) {k cap : Nat} (hk : k ≤ n) (hc : n ≤ cap) :
    Reads w B size (if cap = k then A else A.map (·.add (k * size))) (n - k) (xs.drop (k * size)) := by
  refine ⟨by rw [List.length_drop, h.1, Nat.sub_mul], fun hn => ?_⟩
  obtain ⟨ad, rfl, hb, hcell⟩ := h.2 (by omega)
  rw [if_neg (by omega)]
  refine ⟨ad.add (k * size), rfl, by rw [block_of_add]; exact hb, fun j u hu => ?_⟩
  rw [add_of_add]
  exact hcell _ u (by rw [← hu, List.getElem?_drop])
theorem Reads.of_own {base : Nat} {e : TypeId} {c : Nat} (h : w.ownsRow base e size (.slice A n c) n xs) : Reads w w.heap.size size A n xs := by
  refine ⟨h.1, fun hn => ?_⟩
  obtain ⟨g, cap, hv, _, hlt⟩ := h.form hn
  have hA : A = some ⟨g, 0, none⟩ := by injection hv
  subst hA
  exact ⟨_, rfl, hlt, h.cells (g := g) rfl⟩
end

section
variable {P : Program} (w : World)

theorem run_append_of_nil (base : Nat) (t ty e : TypeId) (i : TypeInfo) (size : Nat) (ht : P.underlying t = some (.slice e)) (hi : P.info? e = some i)
    (v : Value) (n : Nat) (xs : List Value) (hown : w.ownsRow base e size v n xs) (c : Nat) : (Builtin.append_ #[t, t] ty #[v, .slice none 0 c]).run P w = .ok v w := by
  rcases hown.2 with ⟨rfl, rfl⟩ | ⟨g, cap, cur, rfl, _, _, hnc, _⟩
  · simp [Builtin.append_, run_underlying ht, sizeOf, typeInfo, hi, Builtin.lenOf, Builtin.firstCells]
  · simp [Builtin.append_, run_underlying ht, sizeOf, typeInfo, hi, Builtin.lenOf, Builtin.firstCells, hnc, storeCells]

theorem run_append_any (base : Nat) (t ty e : TypeId) (i : TypeInfo) (z : Value) (size bytes : Nat) (ht : P.underlying t = some (.slice e)) (hi : P.info? e = some i) (hz : i.zero = some z)
    (hsize : i.size = size) (hby : i.bytes = bytes) (hzs : z.cells.size = size) (hsz : 0 < size)
    (v : Value) (n : Nat) (xs : List Value) (hown : w.ownsRow base e size v n xs)
    (B : Nat) (A : Option Addr) (m c : Nat) (news : List Value) (hr : Reads w B size A m news) (h1 : ∀ u ∈ news, u.oneCell' = true)
    (h63 : n + m ≤ maxLen) (hbytes : (n + m) * bytes ≤ 140737488355328) (hbase : base ≤ w.heap.size) :
    ∃ v' w', (Builtin.append_ #[t, t] ty #[v, .slice A m c]).run P w = .ok v' w' ∧ w'.ownsRow base e size v' (n + m) (xs ++ news) ∧ w.grownBy w' v.ownBlock ∧
      (v'.ownBlock = v.ownBlock ∨ v'.ownBlock = some w.heap.size) := by
  rcases A with _ | ad
  · have hm : m = 0 := by
      rcases Nat.eq_zero_or_pos m with h0 | h0
      · exact h0
      · obtain ⟨ad, h, _⟩ := hr.2 h0
        cases h
    subst hm
    have hn : news = [] := List.eq_nil_of_length_eq_zero (by simpa using hr.1)
    subst hn
    exact ⟨v, w, run_append_of_nil w base t ty e i size ht hi v n xs hown c, by simpa using hown, World.grownBy.refl w _, .inl rfl⟩
  · have hcells : ∀ j u, news[j]? = some u → w.cell? (ad.add j) = some u := by
      intro j u hu
      rcases Nat.eq_zero_or_pos m with h0 | h0
      · subst h0
        have hn : news = [] := List.eq_nil_of_length_eq_zero (by simpa using hr.1)
        subst hn
        simp at hu
      · obtain ⟨ad', h, _, hc⟩ := hr.2 h0
        injection h with h
        subst h
        exact hc j u hu
    obtain ⟨v', w', hrun, h2, h3, _, h5⟩ := run_append_own_at (P := P) w base t ty e i z size bytes ht hi hz hsize hby hzs hsz v n xs hown ad m c news hr.1 hcells h1 h63 hbytes hbase
    exact ⟨v', w', hrun, h2, h3, h5⟩

theorem wp_append_any {o : Oper} {a : Act} {K : Act → World → Prop} {Q : Exit → Act → World → Prop} (s x : Operand) (t : TypeId)
    (ho : o.op = .call { callee := .builtin .append, args := #[s, x], argTypes := #[t, t] })
    (base : Nat) (e : TypeId) (i : TypeInfo) (z : Value) (size bytes : Nat) (ht : P.underlying t = some (.slice e)) (hi : P.info? e = some i) (hz : i.zero = some z)
    (hsize : i.size = size) (hby : i.bytes = bytes) (hzs : z.cells.size = size) (hsz : 0 < size)
    (v : Value) (n : Nat) (xs : List Value) (hs : a.eval s = v) (hown : w.ownsRow base e size v n xs)
    (B : Nat) (A : Option Addr) (m c : Nat) (news : List Value) (hx : a.eval x = .slice A m c) (hr : Reads w B size A m news) (h1 : ∀ u ∈ news, u.oneCell' = true)
    (h63 : n + m ≤ maxLen) (hbytes : (n + m) * bytes ≤ 140737488355328) (hbase : base ≤ w.heap.size)
    (h : ∀ v' w', w'.ownsRow base e size v' (n + m) (xs ++ news) → w.grownBy w' v.ownBlock → (v'.ownBlock = v.ownBlock ∨ v'.ownBlock = some w.heap.size) → K (a.put o.dst v') w') : o.wp P a w K Q := by
  obtain ⟨v', w', hrun, h2, h3, h4⟩ := run_append_any (P := P) w base t o.type e i z size bytes ht hi hz hsize hby hzs hsz v n xs hown B A m c news hr h1 h63 hbytes hbase
  unfold Oper.wp execOp
  simp only [ho, resolve, invoke, builtin, Sem.run_bind, Sem.run_pure, Result.andThen_ok, List.map_toArray, List.map_cons, List.map_nil, hs, hx, hrun]
  exact h v' w' h2 h3 h4

theorem wpList_append_any {ops : Array Oper} {rest : List Oper} {o : Oper} {a : Act} {Q : Exit → Act → World → Prop} (hgd : o.guard = none) (s x : Operand) (t : TypeId)
    (ho : o.op = .call { callee := .builtin .append, args := #[s, x], argTypes := #[t, t] })
    (base : Nat) (e : TypeId) (i : TypeInfo) (z : Value) (size bytes : Nat) (ht : P.underlying t = some (.slice e)) (hi : P.info? e = some i) (hz : i.zero = some z)
    (hsize : i.size = size) (hby : i.bytes = bytes) (hzs : z.cells.size = size) (hsz : 0 < size)
    (v : Value) (n : Nat) (xs : List Value) (hs : a.eval s = v) (hown : w.ownsRow base e size v n xs)
    (B : Nat) (A : Option Addr) (m c : Nat) (news : List Value) (hx : a.eval x = .slice A m c) (hr : Reads w B size A m news) (h1 : ∀ u ∈ news, u.oneCell' = true)
    (h63 : n + m ≤ maxLen) (hbytes : (n + m) * bytes ≤ 140737488355328) (hbase : base ≤ w.heap.size)
    (h : ∀ v' w', w'.ownsRow base e size v' (n + m) (xs ++ news) → w.grownBy w' v.ownBlock → (v'.ownBlock = v.ownBlock ∨ v'.ownBlock = some w.heap.size) → wpList P ops Q rest (a.put o.dst v') w') : wpList P ops Q (o :: rest) a w :=
  wpList_plain hgd fun _ hK => wp_append_any w s x t ho base e i z size bytes ht hi hz hsize hby hzs hsz v n xs hs hown B A m c news hx hr h1 h63 hbytes hbase fun v' w' h2 h3 h4 => hK _ _ (h v' w' h2 h3 h4)

theorem step_append_any {ops : Array Oper} {o : Oper} {a : Act} {K : Act → World → Prop} {Q : Exit → Act → World → Prop} {E : Prop} (hgd : o.guard = none) (s x : Operand) (t : TypeId)
    (ho : o.op = .call { callee := .builtin .append, args := #[s, x], argTypes := #[t, t] })
    (base : Nat) (e : TypeId) (i : TypeInfo) (z : Value) (size bytes : Nat) (ht : P.underlying t = some (.slice e)) (hi : P.info? e = some i) (hz : i.zero = some z)
    (hsize : i.size = size) (hby : i.bytes = bytes) (hzs : z.cells.size = size) (hsz : 0 < size)
    (v : Value) (n : Nat) (xs : List Value) (hs : a.eval s = v) (hown : w.ownsRow base e size v n xs)
    (B : Nat) (A : Option Addr) (m c : Nat) (news : List Value) (hx : a.eval x = .slice A m c) (hr : Reads w B size A m news) (h1 : ∀ u ∈ news, u.oneCell' = true)
    (h63 : n + m ≤ maxLen) (hbytes : (n + m) * bytes ≤ 140737488355328) (hbase : base ≤ w.heap.size)
    (h : ∀ v' w', w'.ownsRow base e size v' (n + m) (xs ++ news) → w.grownBy w' v.ownBlock → (v'.ownBlock = v.ownBlock ∨ v'.ownBlock = some w.heap.size) → K (a.put o.dst v') w') :
    if Region.wanted o (yielded ops a.tmps) = true then Oper.wp P o a w K Q else E := by
  have hw : Region.wanted o (yielded ops a.tmps) = true := by simp [Region.wanted, hgd]
  rw [if_pos hw]
  exact wp_append_any w s x t ho base e i z size bytes ht hi hz hsize hby hzs hsz v n xs hs hown B A m c news hx hr h1 h63 hbytes hbase h
end

/-- A slice of one-cell elements that came in: nil, or so many cells, each with its reading. -/
theorem open_reads {H : Type} {enc : TypeId × Value → H} {P : Program} {W : World} {r : Reach} {b0 : Nat} {t e : TypeId} {v : Value} {d : DataW H} {ps : List MemPlace} {α : Type} [Inhabited α] (mk : α → Value) (Q : α → Prop)
    (ht : P.underlying t = some (.slice e)) (hc : P.cellsOf e = 1) (hval : Value.okWide P W r b0 t v) (h : DataW.Trod enc P W 0 (fun _ => true) true t v d ps)
    (hel : ∀ n u y, DataW.trod enc P W 0 (fun _ => true) true n e [u] = some y → ∃ x, u = mk x ∧ Q x) :
    ∃ (A : Option Addr) (xs : List α) (c : Nat), v = .slice A xs.length c ∧ Reads W W.heap.size 1 A xs.length (xs.map mk) ∧ (∀ x ∈ xs, Q x) ∧ xs.length ≤ maxLen ∧ xs.length ≤ c := by
  obtain ⟨a, len, cap, rfl⟩ := okWide_slice ht hval
  obtain ⟨fuel, hf⟩ := h
  rcases Go.Deep.open_slice1 ht hc hf with ⟨hcs, _⟩ | ⟨a', len', cap', m, n, V, D, Pl, hcs, _, hl, hm, hmm, _, hi⟩
  · have hq : Value.slice a len cap = Value.slice none 0 0 := by simpa [Value.cells] using hcs
    injection hq with h1 h2 h3
    subst h1 h2 h3
    exact ⟨none, [], 0, rfl, Reads.none_, by simp, by simp [maxLen], by simp⟩
  · have hq : Value.slice a len cap = Value.slice (some a') len' cap' := by simpa [Value.cells] using hcs
    injection hq with h1 h2 h3
    subst h1 h2 h3
    have hmm' : m = cap := by simpa using hmm
    subst hmm'
    obtain ⟨f, hf⟩ := Go.Deep.choose_lt (α := α) (n := m) (p := fun i x => V i = mk x ∧ Q x) (fun i him => hel n _ _ (hi i him).2)
    have hlen : ((List.range len).map f).length = len := by simp
    refine ⟨some a', (List.range len).map f, m, by rw [hlen], ⟨by simp, fun hpos => ⟨a', rfl, ?_, ?_⟩⟩, ?_, ?_, ?_⟩
    · rw [hlen] at hpos
      have := block_lt_of_cell (hi 0 (by omega)).1
      rwa [block_of_add] at this
    · intro j u hu
      have hj : j < len := by
        have := (List.getElem?_eq_some_iff.1 hu).1
        simpa using this
      have hv : u = mk (f j) := by
        rw [List.map_map, List.getElem?_map, List.getElem?_range hj] at hu
        exact (Option.some.inj hu).symm
      rw [hv, ← (hf j (by omega)).1]
      exact (hi j (by omega)).1
    · intro x hx
      obtain ⟨j, hj, rfl⟩ := List.mem_map.1 hx
      exact (hf j (by have := List.mem_range.1 hj; omega)).2
    · rw [hlen]; omega
    · rw [hlen]; exact hl

theorem cell_float {H : Type} {enc : TypeId × Value → H} {P : Program} {W : World} {e : TypeId} {k : FloatKind} (he : P.underlying e = some (.float k)) :
    ∀ n u y, DataW.trod enc P W 0 (fun _ => true) true n e [u] = some y → ∃ x, u = .float k x ∧ (Lit.float k x).wf = true := by
  intro n u y h
  cases n with
  | zero => simp [DataW.trod] at h
  | succ n =>
    simp only [DataW.trod, he] at h
    cases u <;> simp at h
    rename_i k' b
    by_cases hk : k' = k
    · subst hk
      by_cases hw : (Lit.float k' b).wf = true
      · exact ⟨b, rfl, hw⟩
      · simp [hw] at h
    · simp [hk] at h
theorem cell_int {H : Type} {enc : TypeId × Value → H} {P : Program} {W : World} {e : TypeId} {k : IntKind} (he : P.underlying e = some (.int k)) :
    ∀ n u y, DataW.trod enc P W 0 (fun _ => true) true n e [u] = some y → ∃ x, u = .int k x ∧ (Lit.int k x).wf = true := by
  intro n u y h
  obtain ⟨x, hx, _, hw⟩ := DataW.trod_int he h
  exact ⟨x, by simpa using hx, hw⟩

/-- A row of the call's own as a slice that reads. -/
theorem own_slice {w : World} {base : Nat} {e : TypeId} {v : Value} {n : Nat} {xs : List Value} (h : w.ownsRow base e 1 v n xs) : ∃ (A : Option Addr) (c : Nat), v = .slice A n c ∧ n ≤ c ∧ Reads w w.heap.size 1 A n xs := by
  rcases h.2 with ⟨rfl, rfl⟩ | ⟨g, cap, cur, rfl, hb, hg, hnc, _⟩
  · exact ⟨none, 0, rfl, Nat.le_refl _, Reads.of_own h⟩
  · exact ⟨some ⟨g, 0, none⟩, cap, rfl, hnc, Reads.of_own h⟩

/-- 'dst = append(dst, src...)', dst the call's own (from block 'base' on), src any slice that reads; elements of one cell. -/
theorem wpList_append_reads {P : Program} (w : World) {ops : Array Oper} {rest : List Oper} {o : Oper} {a : Act} {Q : Exit → Act → World → Prop} {α : Type} (mk : α → Value) (h1 : ∀ x, (mk x).oneCell' = true)
    (t e : TypeId) (i : TypeInfo) (z : Value) (bytes : Nat) (ht : P.underlying t = some (.slice e)) (hi : P.info? e = some i) (hz : i.zero = some z) (hsize : i.size = 1) (hby : i.bytes = bytes) (hzs : z.cells.size = 1)
    (hgd : o.guard = none) (s x : Operand) (ho : o.op = .call { callee := .builtin .append, args := #[s, x], argTypes := #[t, t] })
    (base : Nat) (v : Value) (n : Nat) (xs : List α) (hs : a.eval s = v) (hown : w.ownsRow base e 1 v n (xs.map mk))
    (B : Nat) (A : Option Addr) (m c : Nat) (ys : List α) (hx : a.eval x = .slice A m c) (hr : Reads w B 1 A m (ys.map mk))
    (h63 : n + m ≤ maxLen) (hbytes : (n + m) * bytes ≤ 140737488355328) (hbase : base ≤ w.heap.size)
    (h : ∀ (A' : Option Addr) (n' c' : Nat) (w' : World), Hid (n' = n + m) → Hid (n' ≤ c') → w'.ownsRow base e 1 (.slice A' n' c') n' ((xs ++ ys).map mk) → Below base w w' → wpList P ops Q rest (a.put o.dst (.slice A' n' c')) w') : wpList P ops Q (o :: rest) a w := by
  refine wpList_append_any w hgd s x t ho base e i z 1 bytes ht hi hz hsize hby hzs (by omega) v n (xs.map mk) hs hown B A m c (ys.map mk) hx hr ?_ h63 hbytes hbase ?_
  · intro u hu
    obtain ⟨y, _, rfl⟩ := List.mem_map.1 hu
    exact h1 y
  · intro v' w' hown' hg _
    rw [← List.map_append] at hown'
    obtain ⟨A', c', rfl, hc, _⟩ := own_slice hown'
    exact h A' (n + m) c' w' (Lib.hid rfl) (Lib.hid hc) hown' ((Below.refl _ _).grown hg hbase (fun k hk => (hown.lt k hk).1))
/-- The same as one step of a region that draws its order; told besides: what the append has written. -/
theorem step_append_reads {P : Program} (w : World) {ops : Array Oper} {o : Oper} {a : Act} {K : Act → World → Prop} {Q : Exit → Act → World → Prop} {E : Prop} {α : Type} (mk : α → Value) (h1 : ∀ x, (mk x).oneCell' = true)
    (t e : TypeId) (i : TypeInfo) (z : Value) (bytes : Nat) (ht : P.underlying t = some (.slice e)) (hi : P.info? e = some i) (hz : i.zero = some z) (hsize : i.size = 1) (hby : i.bytes = bytes) (hzs : z.cells.size = 1)
    (hgd : o.guard = none) (s x : Operand) (ho : o.op = .call { callee := .builtin .append, args := #[s, x], argTypes := #[t, t] })
    (base : Nat) (v : Value) (n : Nat) (xs : List α) (hs : a.eval s = v) (hown : w.ownsRow base e 1 v n (xs.map mk))
    (B : Nat) (A : Option Addr) (m c : Nat) (ys : List α) (hx : a.eval x = .slice A m c) (hr : Reads w B 1 A m (ys.map mk))
    (h63 : n + m ≤ maxLen) (hbytes : (n + m) * bytes ≤ 140737488355328) (hbase : base ≤ w.heap.size)
    (h : ∀ (A' : Option Addr) (n' c' : Nat) (w' : World), Hid (n' = n + m) → Hid (n' ≤ c') → w'.ownsRow base e 1 (.slice A' n' c') n' ((xs ++ ys).map mk) → w.grownBy w' v.ownBlock → Below base w w' → K (a.put o.dst (.slice A' n' c')) w') :
    if Region.wanted o (yielded ops a.tmps) = true then Oper.wp P o a w K Q else E := by
  refine step_append_any w hgd s x t ho base e i z 1 bytes ht hi hz hsize hby hzs (by omega) v n (xs.map mk) hs hown B A m c (ys.map mk) hx hr ?_ h63 hbytes hbase ?_
  · intro u hu
    obtain ⟨y, _, rfl⟩ := List.mem_map.1 hu
    exact h1 y
  · intro v' w' hown' hg _
    rw [← List.map_append] at hown'
    obtain ⟨A', c', rfl, hc, _⟩ := own_slice hown'
    exact h A' (n + m) c' w' (Lib.hid rfl) (Lib.hid hc) hown' hg ((Below.refl _ _).grown hg hbase (fun k hk => (hown.lt k hk).1))
/-- A slice literal of one element. -/
theorem Reads.lit1 {α : Type} (mk : α → Value) (w : World) (x : α) (e : TypeId) : Reads (w.alloc (.cells #[mk x] e)) (w.heap.size + 1) 1 (some ⟨w.heap.size, 0, none⟩) 1 ([x].map mk) :=
  ⟨by simp, fun _ => ⟨_, rfl, by show w.heap.size < _; omega, cell_one_new _ _ _⟩⟩

/-- The call's own row (from block 'base' on), or an empty slice without room, which no world can spoil. -/
def OE (w : World) (base : Nat) (e : TypeId) (v : Value) (n : Nat) (xs : List Value) : Prop :=
  w.ownsRow base e 1 v n xs ∨ (∃ A, v = .slice A 0 0 ∧ n = 0 ∧ xs = [])
theorem OE.empty (w : World) (base : Nat) (e : TypeId) (A : Option Addr) : OE w base e (.slice A 0 0) 0 [] := .inr ⟨A, rfl, rfl, rfl⟩
theorem OE.alloc {w : World} {base : Nat} {e : TypeId} {v : Value} {n : Nat} {xs : List Value} (h : OE w base e v n xs) (o : Obj) : OE (w.alloc o) base e v n xs :=
  h.imp (fun h => h.alloc o) id
theorem OE.drew {w : World} {base : Nat} {e : TypeId} {v : Value} {n : Nat} {xs : List Value} (h : OE w base e v n xs) : OE w.drew base e v n xs := h
theorem OE.reads {w : World} {base : Nat} {e : TypeId} {A : Option Addr} {c n : Nat} {xs : List Value} (h : OE w base e (.slice A n c) n xs) : Reads w w.heap.size 1 A n xs := by
  rcases h with h | ⟨A', _, rfl, rfl⟩
  · exact Reads.of_own h
  · exact ⟨by simp, fun h0 => absurd h0 (by omega)⟩
theorem OE.length {w : World} {base : Nat} {e : TypeId} {v : Value} {n : Nat} {xs : List Value} (h : OE w base e v n xs) : xs.length = n := by
  rcases h with h | ⟨_, _, rfl, rfl⟩
  · have := h.1; simpa using this
  · rfl

theorem below_al {a w : World} (h : Below a.heap.size a w) (o : Obj) : Below a.heap.size a (w.alloc o) := h.alloc h.size o
theorem below_dr {a w : World} (h : Below a.heap.size a w) : Below a.heap.size a w.drew := h.drew
theorem below_step {a W w' : World} {base : Nat} (h : Below a.heap.size a W) (hb : Below base W w') (hbase : a.heap.size ≤ base) : Below a.heap.size a w' := h.trans (hb.mono hbase)
theorem Reads.cut1 {α : Type} {mk : α → Value} {w : World} {B n k cap : Nat} {A : Option Addr} {xs : List α} (h : Reads w B 1 A n (xs.map mk)) (hk : k ≤ n) (hc : n ≤ cap) :
    Reads w B 1 (if cap = k then A else A.map (fun x => x.add k)) (n - k) ((xs.drop k).map mk) := by
  have := h.cut hk hc
  rw [Nat.mul_one, ← List.map_drop] at this
  exact this
theorem Reads.take1 {α : Type} {mk : α → Value} {w : World} {B n k : Nat} {A : Option Addr} {xs : List α} (h : Reads w B 1 A n (xs.map mk)) (hk : k ≤ n) :
    Reads w B 1 A k ((xs.take k).map mk) := by
  have hl : xs.length = n := by have := h.1; simpa using this
  refine ⟨by simp; omega, fun h0 => ?_⟩
  obtain ⟨ad, e, hb, hc⟩ := h.2 (by omega)
  refine ⟨ad, e, hb, fun j u hu => hc j u ?_⟩
  rw [List.map_take, List.getElem?_take] at hu
  split at hu
  · exact hu
  · cases hu
theorem fresh_row {w : World} {e : TypeId} {z : Value} (hzs : z.cells.size = 1) {m cap : Nat} {news : List Value} (hl : news.length = m) (hge : m ≤ cap) (hcm : cap ≤ maxLen) :
    (w.drew.alloc (.cells (news.toArray ++ Builtin.zeroCells z.cells (cap - m)) e)).ownsRow w.heap.size e 1 (.slice (some ⟨w.heap.size, 0, none⟩) m cap) m news ∧
    Below w.heap.size w (w.drew.alloc (.cells (news.toArray ++ Builtin.zeroCells z.cells (cap - m)) e)) := by
  refine ⟨⟨by omega, .inr ⟨w.heap.size, _, _, rfl, Nat.le_refl _, heap_alloc_new w.drew _, hge, hcm, ?_, ?_⟩⟩, (Below.refl _ _).drew.alloc (Nat.le_refl _) _⟩
  · simp only [Array.size_append, List.size_toArray, size_zeroCells, hzs, hl]
    omega
  · simp only [Array.toList_append]
    rw [Nat.mul_one, ← hl]
    exact List.take_left

/-- What an append to an empty slice without room runs to. -/
theorem run_append_empty {P : Program} (w : World) (t ty e : TypeId) (i : TypeInfo) (z : Value) (bytes : Nat) (ht : P.underlying t = some (.slice e)) (hi : P.info? e = some i) (hz : i.zero = some z)
    (hsize : i.size = 1) (hby : i.bytes = bytes) (hzs : z.cells.size = 1) (A0 : Option Addr)
    (B : Nat) (A : Option Addr) (m c : Nat) (news : List Value) (hr : Reads w B 1 A m news) (h63 : m ≤ maxLen) (hbytes : m * bytes ≤ 140737488355328) :
    ∃ v' w', (Builtin.append_ #[t, t] ty #[.slice A0 0 0, .slice A m c]).run P w = .ok v' w' ∧ OE w' w.heap.size e v' m news ∧ Below w.heap.size w w' := by
  have hl : news.length = m := by have := hr.1; simpa using this
  by_cases hm : m = 0
  · subst hm
    have hn : news = [] := List.eq_nil_of_length_eq_zero hl
    subst hn
    refine ⟨.slice A0 0 0, w, ?_, OE.empty _ _ _ _, Below.refl _ _⟩
    cases A0 <;> cases A <;> simp [Builtin.append_, run_underlying ht, sizeOf, typeInfo, hi, Builtin.lenOf, Builtin.firstCells, loadCells, loadCellsFrom, storeCells]
  · obtain ⟨ad, rfl, _, hc⟩ := hr.2 (by omega)
    have hge := grownCap_ge w m 0 e
    have hcm : grownCap w m 0 e ≤ maxLen := grownCap_le_maxLen w m 0 e h63
    obtain ⟨f1, f2⟩ := fresh_row (w := w) (e := e) hzs hl hge hcm
    have hs : m ≤ 9223372036854775807 := by simp only [maxLen] at h63; omega
    have hl' : news.length = m * i.size := by rw [hsize]; omega
    cases A0 with
    | none =>
      have hrun := run_append_nil (P := P) w t ty e i z ht hi hz ad m c news hl' hc (by omega) (by omega) (by rw [hby]; omega)
      exact ⟨_, _, hrun, .inl f1, f2⟩
    | some b =>
      have hfit := growslice_fits (need := 0 + m) (old := 0) (bytes := i.bytes) (by omega) (by rw [hby, Nat.zero_add]; exact hbytes)
      have hrun := run_append_grow (P := P) w t ty e i z ht hi hz b 0 0 [] (by simp) (by simp) ad m c news hl' hc (by omega) (by omega) hfit
      simp only [Nat.zero_add, Array.empty_append] at hrun
      exact ⟨_, _, hrun, .inl f1, f2⟩

theorem run_append_oe {P : Program} (w : World) (t ty e : TypeId) (i : TypeInfo) (z : Value) (bytes : Nat) (ht : P.underlying t = some (.slice e)) (hi : P.info? e = some i) (hz : i.zero = some z)
    (hsize : i.size = 1) (hby : i.bytes = bytes) (hzs : z.cells.size = 1) (base : Nat) (v : Value) (n : Nat) (xs : List Value) (hown : OE w base e v n xs)
    (B : Nat) (A : Option Addr) (m c : Nat) (news : List Value) (hr : Reads w B 1 A m news) (h1 : ∀ u ∈ news, u.oneCell' = true) (h63 : n + m ≤ maxLen) (hbytes : (n + m) * bytes ≤ 140737488355328) (hbase : base ≤ w.heap.size) :
    ∃ v' w', (Builtin.append_ #[t, t] ty #[v, .slice A m c]).run P w = .ok v' w' ∧ OE w' base e v' (n + m) (xs ++ news) ∧ Below base w w' := by
  rcases hown with hown | ⟨A0, rfl, rfl, rfl⟩
  · obtain ⟨v', w', hrun, h2, h3, _⟩ := run_append_any (P := P) w base t ty e i z 1 bytes ht hi hz hsize hby hzs (by omega) v n xs hown B A m c news hr h1 h63 hbytes hbase
    exact ⟨v', w', hrun, .inl h2, (Below.refl _ _).grown h3 hbase (fun k hk => (hown.lt k hk).1)⟩
  · obtain ⟨v', w', hrun, h2, h3⟩ := run_append_empty (P := P) w t ty e i z bytes ht hi hz hsize hby hzs A0 B A m c news hr (by omega) (by simpa using hbytes)
    refine ⟨v', w', hrun, ?_, h3.mono hbase⟩
    rw [Nat.zero_add, List.nil_append]
    rcases h2 with h2 | h2
    · exact .inl ⟨h2.1, h2.2.imp id (fun ⟨g, cap, cur, e1, e2, e3⟩ => ⟨g, cap, cur, e1, Nat.le_trans hbase e2, e3⟩)⟩
    · exact .inr h2
theorem oe_slice {w : World} {base : Nat} {e : TypeId} {v : Value} {n : Nat} {xs : List Value} (h : OE w base e v n xs) : ∃ (A : Option Addr) (c : Nat), v = .slice A n c ∧ n ≤ c := by
  rcases h with h | ⟨A, rfl, rfl, rfl⟩
  · obtain ⟨A, c, h1, h2, _⟩ := own_slice h; exact ⟨A, c, h1, h2⟩
  · exact ⟨A, 0, rfl, Nat.le_refl _⟩

section
variable {P : Program} (w : World) {ops : Array Oper} {rest : List Oper} {o : Oper} {a : Act} {K : Act → World → Prop} {Q : Exit → Act → World → Prop} {E : Prop} {α : Type} (mk : α → Value) (h1 : ∀ x, (mk x).oneCell' = true)
    (t e : TypeId) (i : TypeInfo) (z : Value) (bytes : Nat) (ht : P.underlying t = some (.slice e)) (hi : P.info? e = some i) (hz : i.zero = some z) (hsize : i.size = 1) (hby : i.bytes = bytes) (hzs : z.cells.size = 1)
    (hgd : o.guard = none) (s x : Operand) (ho : o.op = .call { callee := .builtin .append, args := #[s, x], argTypes := #[t, t] })
    (base : Nat) (v : Value) (n : Nat) (xs : List α) (hs : a.eval s = v) (hown : OE w base e v n (xs.map mk))
    (B : Nat) (A : Option Addr) (m c : Nat) (ys : List α) (hx : a.eval x = .slice A m c) (hr : Reads w B 1 A m (ys.map mk))
    (h63 : n + m ≤ maxLen) (hbytes : (n + m) * bytes ≤ 140737488355328) (hbase : base ≤ w.heap.size)
include h1 ht hi hz hsize hby hzs hgd ho hs hown hx hr h63 hbytes hbase
theorem wp_append_oe
    (h : ∀ (A' : Option Addr) (n' c' : Nat) (w' : World), Hid (n' = n + m) → Hid (n' ≤ c') → OE w' base e (.slice A' n' c') n' ((xs ++ ys).map mk) → Below base w w' → K (a.put o.dst (.slice A' n' c')) w') : o.wp P a w K Q := by
  have _ := hgd
  obtain ⟨v', w', hrun, h2, h3⟩ := run_append_oe (P := P) w t o.type e i z bytes ht hi hz hsize hby hzs base v n (xs.map mk) hown B A m c (ys.map mk) hr (by
    intro u hu
    obtain ⟨y, _, rfl⟩ := List.mem_map.1 hu
    exact h1 y) h63 hbytes hbase
  rw [← List.map_append] at h2
  obtain ⟨A', c', rfl, hc⟩ := oe_slice h2
  unfold Oper.wp execOp
  simp only [ho, resolve, invoke, builtin, Sem.run_bind, Sem.run_pure, Result.andThen_ok, List.map_toArray, List.map_cons, List.map_nil, hs, hx, hrun]
  exact h A' (n + m) c' w' (Lib.hid rfl) (Lib.hid hc) h2 h3
theorem wpList_append_oe
    (h : ∀ (A' : Option Addr) (n' c' : Nat) (w' : World), Hid (n' = n + m) → Hid (n' ≤ c') → OE w' base e (.slice A' n' c') n' ((xs ++ ys).map mk) → Below base w w' → wpList P ops Q rest (a.put o.dst (.slice A' n' c')) w') : wpList P ops Q (o :: rest) a w :=
  wpList_plain hgd fun _ hK => wp_append_oe w mk h1 t e i z bytes ht hi hz hsize hby hzs hgd s x ho base v n xs hs hown B A m c ys hx hr h63 hbytes hbase fun A' n' c' w' h2 h3 h4 h5 => hK _ _ (h A' n' c' w' h2 h3 h4 h5)
theorem step_append_oe
    (h : ∀ (A' : Option Addr) (n' c' : Nat) (w' : World), Hid (n' = n + m) → Hid (n' ≤ c') → OE w' base e (.slice A' n' c') n' ((xs ++ ys).map mk) → Below base w w' → K (a.put o.dst (.slice A' n' c')) w') :
    if Region.wanted o (yielded ops a.tmps) = true then Oper.wp P o a w K Q else E := by
  have hw : Region.wanted o (yielded ops a.tmps) = true := by simp [Region.wanted, hgd]
  rw [if_pos hw]
  exact wp_append_oe w mk h1 t e i z bytes ht hi hz hsize hby hzs hgd s x ho base v n xs hs hown B A m c ys hx hr h63 hbytes hbase h
end
end Go.Proofs.YtdkmmnehlmaebaaGreatDoor.Na


/- The walks of the small functions on digits: noughts at the end are cut off, a copy is one's own. Conditions: the digits can be read. -/
namespace Go.Proofs.YtdkmmnehlmaebaaGreatDoor.Na
open Go.RowKit Go.NT

abbrev u32 : Int → Value := Value.int .u32
theorem info67 : (Tryz.prog.info? 67).map (fun i => (i.zero, i.size, i.bytes)) = some (some (.int .u32 0), 1, 4) := by kernel_rfl

theorem Reads.len {w : World} {B n : Nat} {A : Option Addr} {xs : List Int} (h : Reads w B 1 A n (xs.map (Value.int .u32))) : xs.length = n := by have := h.1; simpa using this
theorem Reads.get {w : World} {B n k : Nat} {A : Option Addr} {xs : List Int} (h : Reads w B 1 A n (xs.map (Value.int .u32))) (hk : k < n) :
    ∃ ad, A = some ad ∧ ad.block < B ∧ w.cell? (ad.add k) = some (.int .u32 (xs.getD k 0)) := by
  have hn := h.len
  obtain ⟨ad, u, e, hb, hx, hc⟩ := h.at_ hk
  refine ⟨ad, e, hb, ?_⟩
  rw [hc, ← hx, List.getElem?_map, List.getElem?_eq_getElem (by omega : k < xs.length), List.getD_eq_getElem?_getD, List.getElem?_eq_getElem (by omega : k < xs.length)]; rfl

def lenV : Value → Nat
  | .slice _ m _ => m
  | _ => 0
theorem strip_take_nz {xs : List Int} {m : Nat} (h0 : 0 < m) (hm : m ≤ xs.length) (h : xs.getD (m - 1) 0 ≠ 0) : strip (xs.take m) = xs.take m := by
  obtain ⟨k, rfl⟩ : ∃ k, m = k + 1 := ⟨m - 1, by omega⟩
  rw [Nat.add_sub_cancel] at h
  rw [take_snoc xs k (by omega)]
  exact strip_snoc _ h
theorem strip_take_z {xs : List Int} {m : Nat} (h0 : 0 < m) (hm : m ≤ xs.length) (h : xs.getD (m - 1) 0 = 0) : strip (xs.take m) = strip (xs.take (m - 1)) := by
  obtain ⟨k, rfl⟩ : ∃ k, m = k + 1 := ⟨m - 1, by omega⟩
  rw [Nat.add_sub_cancel] at h ⊢
  rw [take_snoc xs k (by omega), h]
  exact strip_snoc_zero _

set_option maxHeartbeats 400000 in
theorem whole_any (A : Option Addr) (n c : Nat) (xs : List Int) (w : World) {B : Nat} (hr : Reads w B 1 A n (xs.map (Value.int .u32))) (hc : n ≤ c) (hn : n ≤ 9223372036854775807) :
    Calls Tryz.prog 69 #[.slice A n c] w fun e w' => e = .returned (.slice A (strip xs).length c) ∧ w = w' := by
  have hl := hr.len
  have HL := Lib.hid hl
  clear hl
  go_enter Tryz.func69, Tryz.ntmps69
  go_wp2_with fail
  go_loop [0] (fun v => ∃ m : Nat, m ≤ n ∧ v = .slice A m c ∧ Hid (strip (xs.take m) = strip xs)) (fun v => lenV v)
  case atStart => exact ⟨n, Nat.le_refl _, rfl, Lib.hid (by rw [List.take_of_length_le (by rw [HL.out]; omega)])⟩
  case round =>
    obtain ⟨m, hm, rfl, hp⟩ := hrel
    by_cases h0 : 0 < m
    · obtain ⟨ad, rfl, hb, hcell⟩ := hr.get (show m - 1 < n by omega)
      have hmc : m - 1 ≤ c := by omega
      have hz := Lib.hid (strip_take_z (xs := xs) h0 (by rw [HL.out]; exact hm))
      have hnz := Lib.hid (strip_take_nz (xs := xs) h0 (by rw [HL.out]; exact hm))
      generalize xs.getD (m - 1) 0 = x at *
      by_cases hx : x = 0
      · subst hx
        go_wp2_with fail
        exact ⟨⟨m - 1, by omega, rfl, Lib.hid ((hz.out rfl).symm.trans hp.out)⟩, by show m - 1 < m; omega⟩
      · have hx2 : (x == 0) = false := by simpa using hx
        have hq := Lib.hid ((hnz.out hx).symm.trans hp.out)
        clear hx
        go_wp2_with fail
        go_ret
        have hlen : (strip xs).length = m := by rw [← hq.out, List.length_take, HL.out]; omega
        exact ⟨by rw [hlen]; rfl, rfl⟩
    · obtain rfl : m = 0 := by omega
      go_wp2_with fail
      go_ret
      have hlen : (strip xs).length = 0 := by rw [← hp.out]; rfl
      exact ⟨by rw [hlen]; rfl, rfl⟩

theorem whole_q {A : Option Addr} {n c : Nat} {xs : List Int} {w : World} {B : Nat} (hr : Reads w B 1 A n (xs.map (Value.int .u32))) (hc : n ≤ c) (hn : n ≤ 9223372036854775807) (k : Nat) :
    Calls Tryz.prog 69 #[.slice A n c] (w.drewN k) fun e w'' => e = .returned (.slice A (strip xs).length c) ∧ ∃ m, w'' = w.drewN m :=
  Calls.quiet_of_same ((whole_any A n c xs _ (hr.drewN k) hc hn).mono fun _ _ h => ⟨h.1, h.2.symm⟩)
theorem whole_reads {w : World} {B n : Nat} {A : Option Addr} {xs : List Int} (h : Reads w B 1 A n (xs.map (Value.int .u32))) : Reads w B 1 A (strip xs).length ((strip xs).map (Value.int .u32)) := by
  obtain ⟨e, hl⟩ := strip_take xs
  have := h.len
  have h2 := h.take1 (k := (strip xs).length) (by omega)
  rw [← e] at h2
  exact h2

/-- A number as it is handed on: whether it is infinite, and its digits, which can be read. -/
def NV (w : World) (A : Option Addr) (n c : Nat) (xs : List Int) : Prop := Reads w w.heap.size 1 A n (xs.map (Value.int .u32)) ∧ n ≤ c ∧ U32 xs ∧ n ≤ 9223372036854775807
theorem NV.below {w w' : World} {A : Option Addr} {n c : Nat} {xs : List Int} (h : NV w A n c xs) (hb : Below w.heap.size w w') : NV w' A n c xs :=
  ⟨(h.1.below hb).more hb.size, h.2⟩
theorem NV.len {w : World} {A : Option Addr} {n c : Nat} {xs : List Int} (h : NV w A n c xs) : xs.length = n := h.1.len

theorem inf_any (w : World) : Calls Tryz.prog 45 #[] w fun e w' => e = .returned (.agg #[.bool true, .slice none 0 0]) ∧ Below w.heap.size w w' := by
  go_enter Tryz.func45, Tryz.ntmps45
  go_wp2_with fail
  exact bodyPost_ret (v := .agg #[.bool true, .slice none 0 0]) (by simp [results, Tryz.results45, go_sem]) rfl ⟨rfl, (Below.refl _ _).alloc (Nat.le_refl _) _⟩

theorem may_any (b : Bool) (A : Option Addr) (n c : Nat) (xs : List Int) (w : World) (h : NV w A n c xs) :
    Calls Tryz.prog 50 #[.agg #[.bool b, .slice A n c]] w fun e w' => e = .returned (.bool (if b then ((n : Int) == 0) else (((strip xs).length : Int) == (n : Int)))) ∧ Below w.heap.size w w' := by
  obtain ⟨h1, h2, h3, h4⟩ := h
  cases b with
  | true =>
    go_enter Tryz.func50, Tryz.ntmps50
    go_wp2_with fail
    go_ret
    exact ⟨rfl, (Below.refl _ _).alloc (Nat.le_refl _) _⟩
  | false =>
    go_enter Tryz.func50, Tryz.ntmps50
    go_wp2_with fail
    go_quiet ((go_at_call 69; exact whole_q (h1.alloc (Nat.le_refl _) _) h2 h4 _))
    go_wp2_with fail
    go_ret
    exact ⟨rfl, below_drewN ((Below.refl _ _).alloc (Nat.le_refl _) _) _⟩

theorem NV.alloc {w : World} {A : Option Addr} {n c : Nat} {xs : List Int} (h : NV w A n c xs) (o : Obj) : NV (w.alloc o) A n c xs := h.below ((Below.refl _ _).alloc (Nat.le_refl _) _)
theorem NV.strip {w : World} {A : Option Addr} {n c : Nat} {xs : List Int} (h : NV w A n c xs) : NV w A (strip xs).length c (strip xs) := by
  have hl := h.len
  have := (strip_take xs).2
  exact ⟨whole_reads h.1, by have := h.2.1; omega, h.2.2.1.strip, by have := h.2.2.2; omega⟩

/-- What 'nat.Of' gives. -/
def ofD (x : Int) : List Int := strip [x % 4294967296, x / 4294967296]
theorem reads2 (W : World) (a b : Int) (t : TypeId) : Reads (W.alloc (.cells #[.int .u32 a, .int .u32 b] t)) (W.heap.size + 1) 1 (some ⟨W.heap.size, 0, none⟩) 2 ([a, b].map (Value.int .u32)) :=
  ⟨by simp, fun _ => ⟨_, rfl, by show W.heap.size < _; omega, cell_two_new W _ _ t⟩⟩
theorem reads2' (w : World) (o : Obj) (a b : Int) (t : TypeId) : Reads ((w.alloc o).alloc (.cells #[.int .u32 a, .int .u32 b] t)) (w.heap.size + 2) 1 (some ⟨w.heap.size + 1, 0, none⟩) 2 ([a, b].map (Value.int .u32)) := by
  have h := reads2 (w.alloc o) a b t
  have hsz : (w.alloc o).heap.size = w.heap.size + 1 := by simp
  rw [hsz] at h
  exact h
theorem of_u32 {x : Int} (h0 : 0 ≤ x) (h1 : x < 18446744073709551616) : U32 [x % 4294967296, x / 4294967296] := by
  intro y hy
  simp only [List.mem_cons, List.not_mem_nil, or_false] at hy
  unfold W
  rcases hy with rfl | rfl <;> omega
set_option maxHeartbeats 400000 in
theorem of_any (x : Int) (w : World) (h0 : 0 ≤ x) (h1 : x < 18446744073709551616) :
    Calls Tryz.prog 67 #[.int .u64 x] w fun e w' => ∃ (A : Option Addr) (n c : Nat), e = .returned (.agg #[.bool false, .slice A n c]) ∧ NV w' A n c (ofD x) ∧ Below w.heap.size w w' := by
  have h1' : x ≤ 18446744073709551615 := by omega
  have e1 : x / 4294967296 < 4294967296 := by omega
  have e2 : 0 ≤ x / 4294967296 := by omega
  have HU := of_u32 h0 h1
  clear h1
  have hr2 := fun o => reads2' w o (x % 4294967296) (x / 4294967296) 67
  have hq := hr2 (.cells #[.bool false, .slice none 0 0] 24)
  go_enter Tryz.func67, Tryz.ntmps67
  go_wp2_with (go_at_call 69; (with_reducible refine (whole_any (some ⟨w.heap.size + 1, 0, none⟩) 2 2 [x % 4294967296, x / 4294967296] _ hq (Nat.le_refl _) (by omega)).mono ?_); rintro e w' ⟨rfl, rfl⟩)
  have hs := strip_take [x % 4294967296, x / 4294967296]
  refine bodyPost_ret (v := .agg #[.bool false, .slice (some ⟨w.heap.size + 1, 0, none⟩) (strip [x % 4294967296, x / 4294967296]).length 2]) (by simp [results, Tryz.results67, go_sem]) rfl ⟨_, _, _, rfl, ?_, ?_⟩
  · exact ⟨(whole_reads (hr2 _)).more (by simp), hs.2, HU.strip, by have := hs.2; simp at this; omega⟩
  · exact ((Below.refl _ _).alloc (Nat.le_refl _) _).alloc (by simp) _

/-- What 'nat.Compare' and the reference's give: an infinite one is the greatest. -/
def cmpV (a : Bool) (x : Int) (b : Bool) (y : Int) : Int :=
  if a then (if b then 0 else 1) else if b then -1 else if x < y then -1 else if y < x then 1 else 0
end Go.Proofs.YtdkmmnehlmaebaaGreatDoor.Na


/- The walks of comparing, copying and adding. Conditions: the digits can be read. -/
namespace Go.Proofs.YtdkmmnehlmaebaaGreatDoor.Na
open Go.RowKit Go.NT

def cmpI (x y : Int) : Int := if x < y then -1 else if y < x then 1 else 0
theorem cmp34_any (x y : Int) (w : World) : Calls Tryz.prog 75 #[.int .i64 x, .int .i64 y] w fun e w' => e = .returned (.int .i64 (cmpI x y)) ∧ w = w' := by
  by_cases h1 : x < y
  · have HE := Lib.hid (show cmpI x y = -1 by unfold cmpI; rw [if_pos h1])
    go_enter Tryz.func75, Tryz.ntmps75
    go_wp2
    go_ret
    exact ⟨by rw [HE.out]; rfl, rfl⟩
  · by_cases h2 : y < x
    · have HE := Lib.hid (show cmpI x y = 1 by unfold cmpI; rw [if_neg h1, if_pos h2])
      go_enter Tryz.func75, Tryz.ntmps75
      go_wp2
      go_ret
      exact ⟨by rw [HE.out]; rfl, rfl⟩
    · have HE := Lib.hid (show cmpI x y = 0 by unfold cmpI; rw [if_neg h1, if_neg h2])
      go_enter Tryz.func75, Tryz.ntmps75
      go_wp2
      go_ret
      exact ⟨by rw [HE.out]; rfl, rfl⟩
theorem cmp35_any (x y : Int) (w : World) : Calls Tryz.prog 76 #[.int .u32 x, .int .u32 y] w fun e w' => e = .returned (.int .i64 (cmpI x y)) ∧ w' = w := by
  by_cases h1 : x < y
  · have HE := Lib.hid (show cmpI x y = -1 by unfold cmpI; rw [if_pos h1])
    go_enter Tryz.func76, Tryz.ntmps76
    go_wp2
    go_ret
    exact ⟨by rw [HE.out]; rfl, rfl⟩
  · by_cases h2 : y < x
    · have HE := Lib.hid (show cmpI x y = 1 by unfold cmpI; rw [if_neg h1, if_pos h2])
      go_enter Tryz.func76, Tryz.ntmps76
      go_wp2
      go_ret
      exact ⟨by rw [HE.out]; rfl, rfl⟩
    · have HE := Lib.hid (show cmpI x y = 0 by unfold cmpI; rw [if_neg h1, if_neg h2])
      go_enter Tryz.func76, Tryz.ntmps76
      go_wp2
      go_ret
      exact ⟨by rw [HE.out]; rfl, rfl⟩

def Quiet (w w' : World) : Prop := ∃ n, w' = w.drewN n
theorem Quiet.refl (w : World) : Quiet w w := ⟨0, rfl⟩
theorem Quiet.drewN {w w' : World} (h : Quiet w w') (n : Nat) : Quiet w (w'.drewN n) := by
  obtain ⟨m, rfl⟩ := h
  exact ⟨m + n, by rw [World.drewN_drewN]⟩
theorem Quiet.reads {w w' : World} {B n : Nat} {A : Option Addr} {xs : List Value} (h : Quiet w w') (hr : Reads w B 1 A n xs) : Reads w' B 1 A n xs := by
  obtain ⟨m, rfl⟩ := h
  exact hr.drewN m
theorem Quiet.below {w w' : World} (h : Quiet w w') : Below w.heap.size w w' := by
  obtain ⟨n, rfl⟩ := h
  exact ⟨rfl, rfl, rfl, Nat.le_refl _, fun _ _ => rfl⟩

theorem Quiet.from {w w1 w2 : World} {B : Nat} (h : Quiet w1 w2) (hb : Below B w w1) : Below B w w2 := by
  obtain ⟨n, rfl⟩ := h
  exact below_drewN hb n

/-- How two rows of digits stand to each other. -/
theorem cmp_lens {X Y : List Int} (hX : U32 X) (hY : U32 Y) (nX : Norm X) (nY : Norm Y) (h : X.length ≠ Y.length) : cmpI X.length Y.length = cmpI (val X) (val Y) := by
  unfold cmpI
  by_cases l : X.length < Y.length
  · have := val_lt_of_length hX hY nY l
    rw [if_pos (by omega), if_pos this]
  · have := val_lt_of_length hY hX nX (by omega)
    rw [if_neg (by omega), if_pos (by omega), if_neg (by omega), if_pos this]
theorem cmp_digit {X Y : List Int} (hX : U32 X) (hY : U32 Y) {j : Nat} (h1 : j < X.length) (h2 : j < Y.length) (hd : X.drop (j + 1) = Y.drop (j + 1)) (hne : cmpI (X.getD j 0) (Y.getD j 0) ≠ 0) :
    cmpI (X.getD j 0) (Y.getD j 0) = cmpI (val X) (val Y) := by
  unfold cmpI at *
  by_cases l : X.getD j 0 < Y.getD j 0
  · have := val_lt_of_digit hX hY h1 h2 hd l
    rw [if_pos l, if_pos this]
  · by_cases l2 : Y.getD j 0 < X.getD j 0
    · have := val_lt_of_digit hY hX h2 h1 hd.symm l2
      rw [if_neg l, if_pos l2, if_neg (by omega), if_pos this]
    · rw [if_neg l, if_neg l2] at hne; exact absurd rfl hne
theorem cmpI_zero {x y : Int} (h : cmpI x y = 0) : x = y := by
  unfold cmpI at h
  split at h
  · cases h
  · split at h
    · cases h
    · omega
theorem cmpI_self (x : Int) : cmpI x x = 0 := by unfold cmpI; simp

set_option maxHeartbeats 1000000 in
theorem compare_fin (A A' : Option Addr) (n n' c c' : Nat) (xs ys : List Int) (w : World) (hx : NV w A n c xs) (hy : NV w A' n' c' ys) :
    Calls Tryz.prog 46 #[.agg #[.bool false, .slice A n c], .agg #[.bool false, .slice A' n' c']] w fun e w' => e = .returned (.int .i64 (cmpI (val xs) (val ys))) ∧ Below w.heap.size w w' := by
  have hX := hx.strip
  have hY := hy.strip
  have e1 := val_strip xs
  have e2 := val_strip ys
  have nX := Norm.strip xs
  have nY := Norm.strip ys
  obtain ⟨h1, h2, h3, h4⟩ := hx
  obtain ⟨k1, k2, k3, k4⟩ := hy
  have r1 : ∀ o o' : Obj, Reads ((w.alloc o).alloc o') w.heap.size 1 A n (xs.map (Value.int .u32)) := fun o o' => (h1.alloc (Nat.le_refl _) o).alloc (by simp) o'
  have r2 : ∀ o o' : Obj, Reads ((w.alloc o).alloc o') w.heap.size 1 A' n' (ys.map (Value.int .u32)) := fun o o' => (k1.alloc (Nat.le_refl _) o).alloc (by simp) o'
  have r3 : ∀ o o' : Obj, Reads ((w.alloc o).alloc o') w.heap.size 1 A (strip xs).length ((strip xs).map (Value.int .u32)) := fun o o' => (hX.1.alloc (Nat.le_refl _) o).alloc (by simp) o'
  have r4 : ∀ o o' : Obj, Reads ((w.alloc o).alloc o') w.heap.size 1 A' (strip ys).length ((strip ys).map (Value.int .u32)) := fun o o' => (hY.1.alloc (Nat.le_refl _) o).alloc (by simp) o'
  obtain ⟨X, hXd⟩ : ∃ X, X = strip xs := ⟨_, rfl⟩
  obtain ⟨Y, hYd⟩ : ∃ Y, Y = strip ys := ⟨_, rfl⟩
  rw [← hXd] at hX e1 nX r3
  rw [← hYd] at hY e2 nY r4
  have HV := Lib.hid (show cmpI (val xs) (val ys) = cmpI (val X) (val Y) by rw [e1, e2])
  have HX := Lib.hid hXd.symm
  have HY := Lib.hid hYd.symm
  have uX := hX.2.2.1
  have uY := hY.2.2.1
  have lX : X.length ≤ 9223372036854775807 := hX.2.2.2
  have lY : Y.length ≤ 9223372036854775807 := hY.2.2.2
  have hb2 : ∀ o o' : Obj, Below w.heap.size w ((w.alloc o).alloc o') := fun o o' => below_al (below_al (Below.refl _ _) o) o'
  clear e1 e2 hXd hYd hX hY
  go_enter Tryz.func46, Tryz.ntmps46
  go_wp2_with fail
  go_quiet ((go_at_call 69; exact whole_q (by first | exact r1 _ _ | exact r2 _ _) (by first | exact h2 | exact k2) (by first | exact h4 | exact k4) _))
  rw [HX.out, HY.out]
  go_wp2_with (go_at_call 75; refine (cmp34_any _ _ _).mono ?_; rintro e w' ⟨rfl, rfl⟩)
  obtain ⟨R, hR⟩ : ∃ R, R = cmpI (val X) (val Y) := ⟨_, rfl⟩
  have HR := Lib.hid hR
  clear hR
  have hst : Hid ((cmpI X.length Y.length = 0 ∧ X.length = Y.length ∧ X.drop X.length = Y.drop X.length) ∨ (cmpI X.length Y.length ≠ 0 ∧ cmpI X.length Y.length = R)) := Lib.hid (by
    by_cases e : X.length = Y.length
    · left; refine ⟨by rw [e]; exact cmpI_self _, e, ?_⟩
      rw [List.drop_eq_nil_of_le (Nat.le_refl _), e, List.drop_eq_nil_of_le (Nat.le_refl _)]
    · right; refine ⟨fun h => e ?_, ?_⟩
      · have := cmpI_zero h; omega
      · rw [HR.out]; exact cmp_lens uX uY nX nY e)
  generalize cmpI (X.length : Int) (Y.length : Int) = o0 at hst ⊢
  go_loopw [7, 8] (fun o i wr => ∃ (j : Nat) (ov : Int), Quiet ((w.alloc (Obj.cells #[Value.bool false, Value.slice A n c] 24)).alloc (Obj.cells #[Value.bool false, Value.slice A' n' c'] 24)) wr ∧ j ≤ X.length ∧ o = .int .i64 ov ∧ i = .int .i64 ((j : Int) - 1) ∧ Hid ((ov = 0 ∧ X.length = Y.length ∧ X.drop j = Y.drop j) ∨ (ov ≠ 0 ∧ ov = R))) (fun _ i _ => (intOf i + 1).toNat)
  case atStart => exact ⟨X.length, o0, ⟨nq, rfl⟩, Nat.le_refl _, rfl, rfl, hst⟩
  case round =>
    obtain ⟨j, ov, hq, hj, rfl, rfl, hp⟩ := hrel
    rcases hp.out with ⟨h0, hlen, hd⟩ | ⟨h0, hv⟩
    · subst h0
      have HD := Lib.hid hd
      have HLEN := Lib.hid hlen
      have hYj : j ≤ Y.length := by omega
      clear hd hlen
      by_cases hj0 : j = 0
      · subst hj0
        have hRz : Hid (R = 0) := Lib.hid (by have := HD.out; simp only [List.drop_zero] at this; rw [HR.out, this]; exact cmpI_self _)
        rw [show (((0:Nat):Int) - 1) = -1 from rfl]
        go_wp2_with fail
        go_ret
        exact ⟨by rw [HV.out, ← HR.out, hRz.out]; rfl, hq.from (hb2 _ _)⟩
      · obtain ⟨j, rfl⟩ : ∃ k, j = k + 1 := ⟨j - 1, by omega⟩
        have hz : (((j + 1 : Nat) : Int) - 1) = (j : Int) := by omega
        rw [hz]
        obtain ⟨ad, rfl, hb, hcell⟩ := (hq.reads (r3 _ _)).get (show j < X.length by omega)
        obtain ⟨ad', rfl, hb', hcell'⟩ := (hq.reads (r4 _ _)).get (show j < Y.length by omega)
        go_wp2_with fail
        have hlt : (j : Int) < X.length := by omega
        have hlt' : (j : Int) < Y.length := by omega
        have hn : Hid (cmpI (X.getD j 0) (Y.getD j 0) ≠ 0 → cmpI (X.getD j 0) (Y.getD j 0) = R) := Lib.hid (fun h => by
          rw [HR.out]; exact cmp_digit uX uY (by omega) (by omega) HD.out h)
        have he : Hid (cmpI (X.getD j 0) (Y.getD j 0) = 0 → X.drop j = Y.drop j) := Lib.hid (fun h => by
          rw [drop_cons X j (by omega), drop_cons Y j (by omega), cmpI_zero h, HD.out])
        generalize X.getD j 0 = x at *
        generalize Y.getD j 0 = y at *
        go_wp2_with fail
        go_quiet ((go_at_call 76; exact Calls.quiet_of_same (cmp35_any x y _)))
        go_wp2_with fail
        go_roundw
        case rel => exact ⟨j, cmpI x y, hq.drewN _, by omega, rfl, rfl, Lib.hid (by
          by_cases h : cmpI x y = 0
          · exact .inl ⟨h, HLEN.out, he.out h⟩
          · exact .inr ⟨h, hn.out h⟩)⟩
        case measure => simp [intOf]
    · have h0' : (ov == 0) = false := by simpa using h0
      have HVV := Lib.hid hv
      clear hv h0
      go_wp2_with fail
      all_goals
        go_ret
        exact ⟨by rw [HV.out, ← HR.out, ← HVV.out]; rfl, hq.from (hb2 _ _)⟩
end Go.Proofs.YtdkmmnehlmaebaaGreatDoor.Na


/- Copying digits, and what is known of a row of the call's own while it is written. Conditions: the digits can be read. -/
namespace Go.Proofs.YtdkmmnehlmaebaaGreatDoor.Na
open Go.RowKit Go.NT

theorem i60 : ∃ i : TypeInfo, Tryz.prog.info? 67 = some i ∧ i.zero = some (.int .u32 0) ∧ i.size = 1 ∧ i.bytes = 4 := by
  have h := info67
  cases hh : Tryz.prog.info? 67 with
  | none => rw [hh] at h; cases h
  | some i =>
    rw [hh] at h
    simp only [Option.map_some, Option.some.injEq, Prod.mk.injEq] at h
    exact ⟨i, rfl, h.1, h.2.1, h.2.2⟩

theorem own_nil (w : World) (base : Nat) (e : TypeId) : w.ownsRow base e 1 (.slice none 0 0) 0 [] := ⟨by simp, .inl ⟨rfl, rfl⟩⟩
theorem q22 (w : World) (a : Option Addr) (n c n' c' : Nat) : (binOp .eql 22 (.slice a n c) (.slice none n' c')).run Tryz.prog w = .ok (.bool a.isNone) w := Lib.run_eql_slice_nil w _ _ a n c n' c' Tryz.underlying22

set_option maxHeartbeats 400000 in
theorem clone_any (A : Option Addr) (n c : Nat) (xs : List Int) (w : World) {B : Nat} (hr : Reads w B 1 A n (xs.map (Value.int .u32))) (hB : B ≤ w.heap.size) (hn : n ≤ 35184372088832) :
    Calls Tryz.prog 70 #[.slice A n c] w fun e w' => ∃ (A' : Option Addr) (c' : Nat), e = .returned (.slice A' n c') ∧ w'.ownsRow w.heap.size 67 1 (.slice A' n c') n (xs.map (Value.int .u32)) ∧ n ≤ c' ∧ Below w.heap.size w w' := by
  obtain ⟨i, hi, hz0, hz1, hz2⟩ := i60
  cases A with
  | none =>
    have h0 : n = 0 := by
      rcases Nat.eq_zero_or_pos n with h | h
      · exact h
      · obtain ⟨ad, h, _⟩ := hr.2 h; cases h
    subst h0
    have hxs : xs = [] := List.eq_nil_of_length_eq_zero (by have := hr.1; simpa using this)
    subst hxs
    have qq := q22
    clear hi hz0 hz1 hz2
    go_enter Tryz.func70, Tryz.ntmps70
    go_wp2
    go_ret
    exact ⟨none, 0, rfl, own_nil _ _ _, Nat.le_refl _, Below.refl _ _⟩
  | some ad =>
    have qq := q22
    go_enter Tryz.func70, Tryz.ntmps70
    go_wp2_with (at_builtin; refine wpList_append_reads _ (Value.int .u32) (fun _ => rfl) 22 67 i _ 4 Tryz.underlying22 hi hz0 hz1 hz2 rfl rfl (.tmp 5) (.tmp 6) rfl w.heap.size _ 0 [] rfl (World.ownsRow_made w #[] 0 (Nat.le_refl _) (Nat.zero_le _) rfl) B _ n c xs rfl (hr.alloc hB _) (by unfold maxLen; omega) (by omega) (by simp) ?_; intro A1 n1 c1 w1 hn1 hc1 hown1 hb1)
    go_ret
    obtain rfl : n1 = n := by have := hn1.out; omega
    exact ⟨A1, c1, rfl, hown1, hc1.out, below_step (below_al (Below.refl _ _) _) hb1 (Nat.le_refl _)⟩
end Go.Proofs.YtdkmmnehlmaebaaGreatDoor.Na
