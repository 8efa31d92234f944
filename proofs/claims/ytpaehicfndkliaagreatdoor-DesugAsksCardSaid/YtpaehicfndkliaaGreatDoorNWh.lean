
/- Words for memory: a slice that reads as a list, a block known whole, an append onto a row of the call's own; a slice of one-cell elements that came in, opened. No condition. -/
import Derived.WalkKit
import Derived.ProofKit
import Derived.Below
import Derived.Laws.OwnMore
import Derived.Deep.AppendLies
import Derived.Deep.Draws
import Derived.Laws.Rows
import Derived.Maps.AppendAt
import Derived.RegionTactic
import Derived.OwnWalk
import Derived.Deep.Slices
import Derived.Laws.Cover2
import Derived.Lib.Hide
namespace Go.Proofs.YtpaehicfndkliaaGreatDoor.Na
open Go.RowKit Go.ChangeShapes Go.WideShapes
theorem block_of_add (a : Addr) (n : Nat) : (a.add n).block = a.block := by unfold Addr.add; split <;> rfl
theorem add_of_add (a : Addr) (i j : Nat) : (a.add i).add j = a.add (i + j) := by
  unfold Addr.add
  by_cases hi : i = 0 <;> by_cases hj : j = 0 <;> simp [hi, hj, Nat.add_assoc]

def Reads (w : World) (B size : Nat) (A : Option Addr) (n : Nat) (xs : List Value) : Prop :=
  xs.length = n * size ∧ (0 < n → ∃ ad, A = some ad ∧ ad.block < B ∧ ∀ j u, xs[j]? = some u → w.cell? (ad.add j) = some u)

section
variable {w w' : World} {B B' size n : Nat} {A : Option Addr} {xs : List Value}
theorem Reads.none_ : Reads w B size A 0 [] := ⟨by simp, fun h => absurd h (by omega)⟩
theorem Reads.at_ {k : Nat} (h : Reads w B 1 A n xs) (hk : k < n) : ∃ ad u, A = some ad ∧ ad.block < B ∧ xs[k]? = some u ∧ w.cell? (ad.add k) = some u := by
  obtain ⟨ad, e, hb, hc⟩ := h.2 (by omega)
  have hl : k < xs.length := by have := h.1; omega
  exact ⟨ad, xs[k], e, hb, List.getElem?_eq_getElem hl, hc k _ (List.getElem?_eq_getElem hl)⟩
theorem Reads.keep (h : Reads w B size A n xs) (hk : ∀ p : Addr, p.block < B → w'.cell? p = w.cell? p) : Reads w' B size A n xs :=
  ⟨h.1, fun hn => by
    obtain ⟨ad, e, hb, hc⟩ := h.2 hn
    exact ⟨ad, e, hb, fun j u hu => (hk _ (by rw [block_of_add]; exact hb)).trans (hc j u hu)⟩⟩
theorem Reads.more (h : Reads w B size A n xs) (hB : B ≤ B') : Reads w B' size A n xs :=
  ⟨h.1, fun hn => by
    obtain ⟨ad, e, hb, hc⟩ := h.2 hn
    exact ⟨ad, e, by omega, hc⟩⟩
theorem Reads.below (h : Reads w B size A n xs) (hb : Below B w w') : Reads w' B size A n xs := h.keep fun _ hp => hb.cell hp
theorem Reads.drew (h : Reads w B size A n xs) : Reads w.drew B size A n xs := h
theorem Reads.drewN (h : Reads w B size A n xs) (k : Nat) : Reads (w.drewN k) B size A n xs := h
theorem Reads.alloc (h : Reads w B size A n xs) (hB : B ≤ w.heap.size) (o : Obj) : Reads (w.alloc o) B size A n xs := h.keep fun p hp => World.cell?_alloc_lt w o p (by omega)
theorem Reads.setCell (h : Reads w B size A n xs) {p : Addr} (hB : B ≤ p.block) (u : Value) : Reads (w.setCell p u) B size A n xs :=
  h.keep fun q hq => World.cell?_setCell_other w p q u (fun e => by subst e; omega)
theorem Reads.grown (h : Reads w B size A n xs) {row : Option Nat} (hg : w.grownBy w' row) (hB : B ≤ w.heap.size) (hr : ∀ g, row = some g → B ≤ g) : Reads w' B size A n xs :=
  h.keep fun p hp => World.cell?_of_block (hg.block p.block (by omega) (fun e => by have := hr _ e.symm; omega))
theorem Reads.cut (h : Reads w B size A n xs) {k cap : Nat} (hk : k ≤ n) (hc : n ≤ cap) :
    Reads w B size (if cap = k then A else A.map (·.add (k * size))) (n - k) (xs.drop (k * size)) := by
  refine ⟨by rw [List.length_drop, h.1, Nat.sub_mul], fun hn => ?_⟩
  obtain ⟨ad, rfl, hb, hcell⟩ := h.2 (by omega)
  rw [if_neg (by omega)]
  refine ⟨ad.add (k * size), rfl, by rw [block_of_add]; exact hb, fun j u hu => ?_⟩
  rw [add_of_add]
  exact hcell _ u (by rw [← hu, List.getElem?_drop])
theorem Reads.of_own {base : Nat} {e : TypeId} {c : Nat} (h : w.ownsRow base e size (.slice A n c) n xs) : Reads w w.heap.size size A n xs := by
  refine ⟨h.1, fun hn => ?_⟩
  obtain ⟨g, cap, hv, _, hlt⟩ := h.form hn
  have hA : A = some ⟨g, 0, none⟩ := by injection hv
  subst hA
  exact ⟨_, rfl, hlt, h.cells (g := g) rfl⟩
end

section
variable {P : Program} (w : World)

theorem run_append_of_nil (base : Nat) (t ty e : TypeId) (i : TypeInfo) (size : Nat) (ht : P.underlying t = some (.slice e)) (hi : P.info? e = some i)
    (v : Value) (n : Nat) (xs : List Value) (hown : w.ownsRow base e size v n xs) (c : Nat) : (Builtin.append_ #[t, t] ty #[v, .slice none 0 c]).run P w = .ok v w := by
  rcases hown.2 with ⟨rfl, rfl⟩ | ⟨g, cap, cur, rfl, _, _, hnc, _⟩
  · simp [Builtin.append_, run_underlying ht, sizeOf, typeInfo, hi, Builtin.lenOf, Builtin.firstCells]
  · simp [Builtin.append_, run_underlying ht, sizeOf, typeInfo, hi, Builtin.lenOf, Builtin.firstCells, hnc, storeCells]

theorem run_append_any (base : Nat) (t ty e : TypeId) (i : TypeInfo) (z : Value) (size bytes : Nat) (ht : P.underlying t = some (.slice e)) (hi : P.info? e = some i) (hz : i.zero = some z)
    (hsize : i.size = size) (hby : i.bytes = bytes) (hzs : z.cells.size = size) (hsz : 0 < size)
    (v : Value) (n : Nat) (xs : List Value) (hown : w.ownsRow base e size v n xs)
    (B : Nat) (A : Option Addr) (m c : Nat) (news : List Value) (hr : Reads w B size A m news) (h1 : ∀ u ∈ news, u.oneCell' = true)
    (h63 : n + m ≤ maxLen) (hbytes : (n + m) * bytes ≤ 140737488355328) (hbase : base ≤ w.heap.size) :
    ∃ v' w', (Builtin.append_ #[t, t] ty #[v, .slice A m c]).run P w = .ok v' w' ∧ w'.ownsRow base e size v' (n + m) (xs ++ news) ∧ w.grownBy w' v.ownBlock ∧
      (v'.ownBlock = v.ownBlock ∨ v'.ownBlock = some w.heap.size) := by
  rcases A with _ | ad
  · have hm : m = 0 := by
      rcases Nat.eq_zero_or_pos m with h0 | h0
      · exact h0
      · obtain ⟨ad, h, _⟩ := hr.2 h0
        cases h
    subst hm
    have hn : news = [] := List.eq_nil_of_length_eq_zero (by simpa using hr.1)
    subst hn
    exact ⟨v, w, run_append_of_nil w base t ty e i size ht hi v n xs hown c, by simpa using hown, World.grownBy.refl w _, .inl rfl⟩
  · have hcells : ∀ j u, news[j]? = some u → w.cell? (ad.add j) = some u := by
      intro j u hu
      rcases Nat.eq_zero_or_pos m with h0 | h0
      · subst h0
        have hn : news = [] := List.eq_nil_of_length_eq_zero (by simpa using hr.1)
        subst hn
        simp at hu
      · obtain ⟨ad', h, _, hc⟩ := hr.2 h0
        injection h with h
        subst h
        exact hc j u hu
    obtain ⟨v', w', hrun, h2, h3, _, h5⟩ := run_append_own_at (P := P) w base t ty e i z size bytes ht hi hz hsize hby hzs hsz v n xs hown ad m c news hr.1 hcells h1 h63 hbytes hbase
    exact ⟨v', w', hrun, h2, h3, h5⟩

theorem wp_append_any {o : Oper} {a : Act} {K : Act → World → Prop} {Q : Exit → Act → World → Prop} (s x : Operand) (t : TypeId)
    (ho : o.op = .call { callee := .builtin .append, args := #[s, x], argTypes := #[t, t] })
    (base : Nat) (e : TypeId) (i : TypeInfo) (z : Value) (size bytes : Nat) (ht : P.underlying t = some (.slice e)) (hi : P.info? e = some i) (hz : i.zero = some z)
    (hsize : i.size = size) (hby : i.bytes = bytes) (hzs : z.cells.size = size) (hsz : 0 < size)
    (v : Value) (n : Nat) (xs : List Value) (hs : a.eval s = v) (hown : w.ownsRow base e size v n xs)
    (B : Nat) (A : Option Addr) (m c : Nat) (news : List Value) (hx : a.eval x = .slice A m c) (hr : Reads w B size A m news) (h1 : ∀ u ∈ news, u.oneCell' = true)
    (h63 : n + m ≤ maxLen) (hbytes : (n + m) * bytes ≤ 140737488355328) (hbase : base ≤ w.heap.size)
    (h : ∀ v' w', w'.ownsRow base e size v' (n + m) (xs ++ news) → w.grownBy w' v.ownBlock → (v'.ownBlock = v.ownBlock ∨ v'.ownBlock = some w.heap.size) → K (a.put o.dst v') w') : o.wp P a w K Q := by
  obtain ⟨v', w', hrun, h2, h3, h4⟩ := run_append_any (P := P) w base t o.type e i z size bytes ht hi hz hsize hby hzs hsz v n xs hown B A m c news hr h1 h63 hbytes hbase
  unfold Oper.wp execOp
  simp only [ho, resolve, invoke, builtin, Sem.run_bind, Sem.run_pure, Result.andThen_ok, List.map_toArray, List.map_cons, List.map_nil, hs, hx, hrun]
  exact h v' w' h2 h3 h4

theorem wpList_append_any {ops : Array Oper} {rest : List Oper} {o : Oper} {a : Act} {Q : Exit → Act → World → Prop} (hgd : o.guard = none) (s x : Operand) (t : TypeId)
    (ho : o.op = .call { callee := .builtin .append, args := #[s, x], argTypes := #[t, t] })
    (base : Nat) (e : TypeId) (i : TypeInfo) (z : Value) (size bytes : Nat) (ht : P.underlying t = some (.slice e)) (hi : P.info? e = some i) (hz : i.zero = some z)
    (hsize : i.size = size) (hby : i.bytes = bytes) (hzs : z.cells.size = size) (hsz : 0 < size)
    (v : Value) (n : Nat) (xs : List Value) (hs : a.eval s = v) (hown : w.ownsRow base e size v n xs)
    (B : Nat) (A : Option Addr) (m c : Nat) (news : List Value) (hx : a.eval x = .slice A m c) (hr : Reads w B size A m news) (h1 : ∀ u ∈ news, u.oneCell' = true)
    (h63 : n + m ≤ maxLen) (hbytes : (n + m) * bytes ≤ 140737488355328) (hbase : base ≤ w.heap.size)
    (h : ∀ v' w', w'.ownsRow base e size v' (n + m) (xs ++ news) → w.grownBy w' v.ownBlock → (v'.ownBlock = v.ownBlock ∨ v'.ownBlock = some w.heap.size) → wpList P ops Q rest (a.put o.dst v') w') : wpList P ops Q (o :: rest) a w :=
  wpList_plain hgd fun _ hK => wp_append_any w s x t ho base e i z size bytes ht hi hz hsize hby hzs hsz v n xs hs hown B A m c news hx hr h1 h63 hbytes hbase fun v' w' h2 h3 h4 => hK _ _ (h v' w' h2 h3 h4)

theorem step_append_any {ops : Array Oper} {o : Oper} {a : Act} {K : Act → World → Prop} {Q : Exit → Act → World → Prop} {E : Prop} (hgd : o.guard = none) (s x : Operand) (t : TypeId)
    (ho : o.op = .call { callee := .builtin .append, args := #[s, x], argTypes := #[t, t] })
    (base : Nat) (e : TypeId) (i : TypeInfo) (z : Value) (size bytes : Nat) (ht : P.underlying t = some (.slice e)) (hi : P.info? e = some i) (hz : i.zero = some z)
    (hsize : i.size = size) (hby : i.bytes = bytes) (hzs : z.cells.size = size) (hsz : 0 < size)
    (v : Value) (n : Nat) (xs : List Value) (hs : a.eval s = v) (hown : w.ownsRow base e size v n xs)
    (B : Nat) (A : Option Addr) (m c : Nat) (news : List Value) (hx : a.eval x = .slice A m c) (hr : Reads w B size A m news) (h1 : ∀ u ∈ news, u.oneCell' = true)
    (h63 : n + m ≤ maxLen) (hbytes : (n + m) * bytes ≤ 140737488355328) (hbase : base ≤ w.heap.size)
    (h : ∀ v' w', w'.ownsRow base e size v' (n + m) (xs ++ news) → w.grownBy w' v.ownBlock → (v'.ownBlock = v.ownBlock ∨ v'.ownBlock = some w.heap.size) → K (a.put o.dst v') w') :
    if Region.wanted o (yielded ops a.tmps) = true then Oper.wp P o a w K Q else E := by
  have hw : Region.wanted o (yielded ops a.tmps) = true := by simp [Region.wanted, hgd]
  rw [if_pos hw]
  exact wp_append_any w s x t ho base e i z size bytes ht hi hz hsize hby hzs hsz v n xs hs hown B A m c news hx hr h1 h63 hbytes hbase h
end

/-- A slice of one-cell elements that came in: nil, or so many cells, each with its reading. -/
theorem open_reads {H : Type} {enc : TypeId × Value → H} {P : Program} {W : World} {r : Reach} {b0 : Nat} {t e : TypeId} {v : Value} {d : DataW H} {ps : List MemPlace} {α : Type} [Inhabited α] (mk : α → Value) (Q : α → Prop)
    (ht : P.underlying t = some (.slice e)) (hc : P.cellsOf e = 1) (hval : Value.okWide P W r b0 t v) (h : DataW.Trod enc P W 0 (fun _ => true) true t v d ps)
    (hel : ∀ n u y, DataW.trod enc P W 0 (fun _ => true) true n e [u] = some y → ∃ x, u = mk x ∧ Q x) :
    ∃ (A : Option Addr) (xs : List α) (c : Nat), v = .slice A xs.length c ∧ Reads W W.heap.size 1 A xs.length (xs.map mk) ∧ (∀ x ∈ xs, Q x) ∧ xs.length ≤ maxLen ∧ xs.length ≤ c := by
  obtain ⟨a, len, cap, rfl⟩ := okWide_slice ht hval
  obtain ⟨fuel, hf⟩ := h
  rcases Go.Deep.open_slice1 ht hc hf with ⟨hcs, _⟩ | ⟨a', len', cap', m, n, V, D, Pl, hcs, _, hl, hm, hmm, _, hi⟩
  · have hq : Value.slice a len cap = Value.slice none 0 0 := by simpa [Value.cells] using hcs
    injection hq with h1 h2 h3
    subst h1 h2 h3
    exact ⟨none, [], 0, rfl, Reads.none_, by simp, by simp [maxLen], by simp⟩
  · have hq : Value.slice a len cap = Value.slice (some a') len' cap' := by simpa [Value.cells] using hcs
    injection hq with h1 h2 h3
    subst h1 h2 h3
    have hmm' : m = cap := by simpa using hmm
    subst hmm'
    obtain ⟨f, hf⟩ := Go.Deep.choose_lt (α := α) (n := m) (p := fun i x => V i = mk x ∧ Q x) (fun i him => hel n _ _ (hi i him).2)
    have hlen : ((List.range len).map f).length = len := by simp
    refine ⟨some a', (List.range len).map f, m, by rw [hlen], ⟨by simp, fun hpos => ⟨a', rfl, ?_, ?_⟩⟩, ?_, ?_, ?_⟩
    · rw [hlen] at hpos
      have := block_lt_of_cell (hi 0 (by omega)).1
      rwa [block_of_add] at this
    · intro j u hu
      have hj : j < len := by
        have := (List.getElem?_eq_some_iff.1 hu).1
        simpa using this
      have hv : u = mk (f j) := by
        rw [List.map_map, List.getElem?_map, List.getElem?_range hj] at hu
        exact (Option.some.inj hu).symm
      rw [hv, ← (hf j (by omega)).1]
      exact (hi j (by omega)).1
    · intro x hx
      obtain ⟨j, hj, rfl⟩ := List.mem_map.1 hx
      exact (hf j (by have := List.mem_range.1 hj; omega)).2
    · rw [hlen]; omega
    · rw [hlen]; exact hl

theorem cell_float {H : Type} {enc : TypeId × Value → H} {P : Program} {W : World} {e : TypeId} {k : FloatKind} (he : P.underlying e = some (.float k)) :
    ∀ n u y, DataW.trod enc P W 0 (fun _ => true) true n e [u] = some y → ∃ x, u = .float k x ∧ (Lit.float k x).wf = true := by
  intro n u y h
  cases n with
  | zero => simp [DataW.trod] at h
  | succ n =>
    simp only [DataW.trod, he] at h
    cases u <;> simp at h
    rename_i k' b
    by_cases hk : k' = k
    · subst hk
      by_cases hw : (Lit.float k' b).wf = true
      · exact ⟨b, rfl, hw⟩
      · simp [hw] at h
    · simp [hk] at h
theorem cell_int {H : Type} {enc : TypeId × Value → H} {P : Program} {W : World} {e : TypeId} {k : IntKind} (he : P.underlying e = some (.int k)) :
    ∀ n u y, DataW.trod enc P W 0 (fun _ => true) true n e [u] = some y → ∃ x, u = .int k x ∧ (Lit.int k x).wf = true := by
  intro n u y h
  obtain ⟨x, hx, _, hw⟩ := DataW.trod_int he h
  exact ⟨x, by simpa using hx, hw⟩

/-- A row of the call's own as a slice that reads. -/
theorem own_slice {w : World} {base : Nat} {e : TypeId} {v : Value} {n : Nat} {xs : List Value} (h : w.ownsRow base e 1 v n xs) : ∃ (A : Option Addr) (c : Nat), v = .slice A n c ∧ n ≤ c ∧ Reads w w.heap.size 1 A n xs := by
  rcases h.2 with ⟨rfl, rfl⟩ | ⟨g, cap, cur, rfl, hb, hg, hnc, _⟩
  · exact ⟨none, 0, rfl, Nat.le_refl _, Reads.of_own h⟩
  · exact ⟨some ⟨g, 0, none⟩, cap, rfl, hnc, Reads.of_own h⟩

/-- 'dst = append(dst, src...)', dst the call's own (from block 'base' on), src any slice that reads; elements of one cell. -/
theorem wpList_append_reads {P : Program} (w : World) {ops : Array Oper} {rest : List Oper} {o : Oper} {a : Act} {Q : Exit → Act → World → Prop} {α : Type} (mk : α → Value) (h1 : ∀ x, (mk x).oneCell' = true)
    (t e : TypeId) (i : TypeInfo) (z : Value) (bytes : Nat) (ht : P.underlying t = some (.slice e)) (hi : P.info? e = some i) (hz : i.zero = some z) (hsize : i.size = 1) (hby : i.bytes = bytes) (hzs : z.cells.size = 1)
    (hgd : o.guard = none) (s x : Operand) (ho : o.op = .call { callee := .builtin .append, args := #[s, x], argTypes := #[t, t] })
    (base : Nat) (v : Value) (n : Nat) (xs : List α) (hs : a.eval s = v) (hown : w.ownsRow base e 1 v n (xs.map mk))
    (B : Nat) (A : Option Addr) (m c : Nat) (ys : List α) (hx : a.eval x = .slice A m c) (hr : Reads w B 1 A m (ys.map mk))
    (h63 : n + m ≤ maxLen) (hbytes : (n + m) * bytes ≤ 140737488355328) (hbase : base ≤ w.heap.size)
    (h : ∀ (A' : Option Addr) (n' c' : Nat) (w' : World), Hid (n' = n + m) → Hid (n' ≤ c') → w'.ownsRow base e 1 (.slice A' n' c') n' ((xs ++ ys).map mk) → Below base w w' → wpList P ops Q rest (a.put o.dst (.slice A' n' c')) w') : wpList P ops Q (o :: rest) a w := by
  refine wpList_append_any w hgd s x t ho base e i z 1 bytes ht hi hz hsize hby hzs (by omega) v n (xs.map mk) hs hown B A m c (ys.map mk) hx hr ?_ h63 hbytes hbase ?_
  · intro u hu
    obtain ⟨y, _, rfl⟩ := List.mem_map.1 hu
    exact h1 y
  · intro v' w' hown' hg _
    rw [← List.map_append] at hown'
    obtain ⟨A', c', rfl, hc, _⟩ := own_slice hown'
    exact h A' (n + m) c' w' (Lib.hid rfl) (Lib.hid hc) hown' ((Below.refl _ _).grown hg hbase (fun k hk => (hown.lt k hk).1))
/-- The same as one step of a region that draws its order; told besides: what the append has written. -/
theorem step_append_reads {P : Program} (w : World) {ops : Array Oper} {o : Oper} {a : Act} {K : Act → World → Prop} {Q : Exit → Act → World → Prop} {E : Prop} {α : Type} (mk : α → Value) (h1 : ∀ x, (mk x).oneCell' = true)
    (t e : TypeId) (i : TypeInfo) (z : Value) (bytes : Nat) (ht : P.underlying t = some (.slice e)) (hi : P.info? e = some i) (hz : i.zero = some z) (hsize : i.size = 1) (hby : i.bytes = bytes) (hzs : z.cells.size = 1)
    (hgd : o.guard = none) (s x : Operand) (ho : o.op = .call { callee := .builtin .append, args := #[s, x], argTypes := #[t, t] })
    (base : Nat) (v : Value) (n : Nat) (xs : List α) (hs : a.eval s = v) (hown : w.ownsRow base e 1 v n (xs.map mk))
    (B : Nat) (A : Option Addr) (m c : Nat) (ys : List α) (hx : a.eval x = .slice A m c) (hr : Reads w B 1 A m (ys.map mk))
    (h63 : n + m ≤ maxLen) (hbytes : (n + m) * bytes ≤ 140737488355328) (hbase : base ≤ w.heap.size)
    (h : ∀ (A' : Option Addr) (n' c' : Nat) (w' : World), Hid (n' = n + m) → Hid (n' ≤ c') → w'.ownsRow base e 1 (.slice A' n' c') n' ((xs ++ ys).map mk) → w.grownBy w' v.ownBlock → Below base w w' → K (a.put o.dst (.slice A' n' c')) w') :
    if Region.wanted o (yielded ops a.tmps) = true then Oper.wp P o a w K Q else E := by
  refine step_append_any w hgd s x t ho base e i z 1 bytes ht hi hz hsize hby hzs (by omega) v n (xs.map mk) hs hown B A m c (ys.map mk) hx hr ?_ h63 hbytes hbase ?_
  · intro u hu
    obtain ⟨y, _, rfl⟩ := List.mem_map.1 hu
    exact h1 y
  · intro v' w' hown' hg _
    rw [← List.map_append] at hown'
    obtain ⟨A', c', rfl, hc, _⟩ := own_slice hown'
    exact h A' (n + m) c' w' (Lib.hid rfl) (Lib.hid hc) hown' hg ((Below.refl _ _).grown hg hbase (fun k hk => (hown.lt k hk).1))
/-- A slice literal of one element. -/
theorem Reads.lit1 {α : Type} (mk : α → Value) (w : World) (x : α) (e : TypeId) : Reads (w.alloc (.cells #[mk x] e)) (w.heap.size + 1) 1 (some ⟨w.heap.size, 0, none⟩) 1 ([x].map mk) :=
  ⟨by simp, fun _ => ⟨_, rfl, by show w.heap.size < _; omega, cell_one_new _ _ _⟩⟩

/-- The call's own row (from block 'base' on), or an empty slice without room, which no world can spoil. -/
def OE (w : World) (base : Nat) (e : TypeId) (v : Value) (n : Nat) (xs : List Value) : Prop :=
  w.ownsRow base e 1 v n xs ∨ (∃ A, v = .slice A 0 0 ∧ n = 0 ∧ xs = [])
theorem OE.empty (w : World) (base : Nat) (e : TypeId) (A : Option Addr) : OE w base e (.slice A 0 0) 0 [] := .inr ⟨A, rfl, rfl, rfl⟩
theorem OE.alloc {w : World} {base : Nat} {e : TypeId} {v : Value} {n : Nat} {xs : List Value} (h : OE w base e v n xs) (o : Obj) : OE (w.alloc o) base e v n xs :=
  h.imp (fun h => h.alloc o) id
theorem OE.drew {w : World} {base : Nat} {e : TypeId} {v : Value} {n : Nat} {xs : List Value} (h : OE w base e v n xs) : OE w.drew base e v n xs := h
theorem OE.reads {w : World} {base : Nat} {e : TypeId} {A : Option Addr} {c n : Nat} {xs : List Value} (h : OE w base e (.slice A n c) n xs) : Reads w w.heap.size 1 A n xs := by
  rcases h with h | ⟨A', _, rfl, rfl⟩
  · exact Reads.of_own h
  · exact ⟨by simp, fun h0 => absurd h0 (by omega)⟩
theorem OE.length {w : World} {base : Nat} {e : TypeId} {v : Value} {n : Nat} {xs : List Value} (h : OE w base e v n xs) : xs.length = n := by
  rcases h with h | ⟨_, _, rfl, rfl⟩
  · have := h.1; simpa using this
  · rfl

theorem below_al {a w : World} (h : Below a.heap.size a w) (o : Obj) : Below a.heap.size a (w.alloc o) := h.alloc h.size o
theorem below_dr {a w : World} (h : Below a.heap.size a w) : Below a.heap.size a w.drew := h.drew
theorem below_step {a W w' : World} {base : Nat} (h : Below a.heap.size a W) (hb : Below base W w') (hbase : a.heap.size ≤ base) : Below a.heap.size a w' := h.trans (hb.mono hbase)
theorem Reads.cut1 {α : Type} {mk : α → Value} {w : World} {B n k cap : Nat} {A : Option Addr} {xs : List α} (h : Reads w B 1 A n (xs.map mk)) (hk : k ≤ n) (hc : n ≤ cap) :
    Reads w B 1 (if cap = k then A else A.map (fun x => x.add k)) (n - k) ((xs.drop k).map mk) := by
  have := h.cut hk hc
  rw [Nat.mul_one, ← List.map_drop] at this
  exact this
theorem Reads.take1 {α : Type} {mk : α → Value} {w : World} {B n k : Nat} {A : Option Addr} {xs : List α} (h : Reads w B 1 A n (xs.map mk)) (hk : k ≤ n) :
    Reads w B 1 A k ((xs.take k).map mk) := by
  have hl : xs.length = n := by have := h.1; simpa using this
  refine ⟨by simp; omega, fun h0 => ?_⟩
  obtain ⟨ad, e, hb, hc⟩ := h.2 (by omega)
  refine ⟨ad, e, hb, fun j u hu => hc j u ?_⟩
  rw [List.map_take, List.getElem?_take] at hu
  split at hu
  · exact hu
  · cases hu
theorem fresh_row {w : World} {e : TypeId} {z : Value} (hzs : z.cells.size = 1) {m cap : Nat} {news : List Value} (hl : news.length = m) (hge : m ≤ cap) (hcm : cap ≤ maxLen) :
    (w.drew.alloc (.cells (news.toArray ++ Builtin.zeroCells z.cells (cap - m)) e)).ownsRow w.heap.size e 1 (.slice (some ⟨w.heap.size, 0, none⟩) m cap) m news ∧
    Below w.heap.size w (w.drew.alloc (.cells (news.toArray ++ Builtin.zeroCells z.cells (cap - m)) e)) := by
  refine ⟨⟨by omega, .inr ⟨w.heap.size, _, _, rfl, Nat.le_refl _, heap_alloc_new w.drew _, hge, hcm, ?_, ?_⟩⟩, (Below.refl _ _).drew.alloc (Nat.le_refl _) _⟩
  · simp only [Array.size_append, List.size_toArray, size_zeroCells, hzs, hl]
    omega
  · simp only [Array.toList_append]
    rw [Nat.mul_one, ← hl]
    exact List.take_left

/-- What an append to an empty slice without room runs to. -/
theorem run_append_empty {P : Program} (w : World) (t ty e : TypeId) (i : TypeInfo) (z : Value) (bytes : Nat) (ht : P.underlying t = some (.slice e)) (hi : P.info? e = some i) (hz : i.zero = some z)
    (hsize : i.size = 1) (hby : i.bytes = bytes) (hzs : z.cells.size = 1) (A0 : Option Addr)
    (B : Nat) (A : Option Addr) (m c : Nat) (news : List Value) (hr : Reads w B 1 A m news) (h63 : m ≤ maxLen) (hbytes : m * bytes ≤ 140737488355328) :
    ∃ v' w', (Builtin.append_ #[t, t] ty #[.slice A0 0 0, .slice A m c]).run P w = .ok v' w' ∧ OE w' w.heap.size e v' m news ∧ Below w.heap.size w w' := by
  have hl : news.length = m := by have := hr.1; simpa using this
  by_cases hm : m = 0
  · subst hm
    have hn : news = [] := List.eq_nil_of_length_eq_zero hl
    subst hn
    refine ⟨.slice A0 0 0, w, ?_, OE.empty _ _ _ _, Below.refl _ _⟩
    cases A0 <;> cases A <;> simp [Builtin.append_, run_underlying ht, sizeOf, typeInfo, hi, Builtin.lenOf, Builtin.firstCells, loadCells, loadCellsFrom, storeCells]
  · obtain ⟨ad, rfl, _, hc⟩ := hr.2 (by omega)
    have hge := grownCap_ge w m 0 e
    have hcm : grownCap w m 0 e ≤ maxLen := grownCap_le_maxLen w m 0 e h63
    obtain ⟨f1, f2⟩ := fresh_row (w := w) (e := e) hzs hl hge hcm
    have hs : m ≤ 9223372036854775807 := by simp only [maxLen] at h63; omega
    have hl' : news.length = m * i.size := by rw [hsize]; omega
    cases A0 with
    | none =>
      have hrun := run_append_nil (P := P) w t ty e i z ht hi hz ad m c news hl' hc (by omega) (by omega) (by rw [hby]; omega)
      exact ⟨_, _, hrun, .inl f1, f2⟩
    | some b =>
      have hfit := growslice_fits (need := 0 + m) (old := 0) (bytes := i.bytes) (by omega) (by rw [hby, Nat.zero_add]; exact hbytes)
      have hrun := run_append_grow (P := P) w t ty e i z ht hi hz b 0 0 [] (by simp) (by simp) ad m c news hl' hc (by omega) (by omega) hfit
      simp only [Nat.zero_add, Array.empty_append] at hrun
      exact ⟨_, _, hrun, .inl f1, f2⟩

theorem run_append_oe {P : Program} (w : World) (t ty e : TypeId) (i : TypeInfo) (z : Value) (bytes : Nat) (ht : P.underlying t = some (.slice e)) (hi : P.info? e = some i) (hz : i.zero = some z)
    (hsize : i.size = 1) (hby : i.bytes = bytes) (hzs : z.cells.size = 1) (base : Nat) (v : Value) (n : Nat) (xs : List Value) (hown : OE w base e v n xs)
    (B : Nat) (A : Option Addr) (m c : Nat) (news : List Value) (hr : Reads w B 1 A m news) (h1 : ∀ u ∈ news, u.oneCell' = true) (h63 : n + m ≤ maxLen) (hbytes : (n + m) * bytes ≤ 140737488355328) (hbase : base ≤ w.heap.size) :
    ∃ v' w', (Builtin.append_ #[t, t] ty #[v, .slice A m c]).run P w = .ok v' w' ∧ OE w' base e v' (n + m) (xs ++ news) ∧ Below base w w' := by
  rcases hown with hown | ⟨A0, rfl, rfl, rfl⟩
  · obtain ⟨v', w', hrun, h2, h3, _⟩ := run_append_any (P := P) w base t ty e i z 1 bytes ht hi hz hsize hby hzs (by omega) v n xs hown B A m c news hr h1 h63 hbytes hbase
    exact ⟨v', w', hrun, .inl h2, (Below.refl _ _).grown h3 hbase (fun k hk => (hown.lt k hk).1)⟩
  · obtain ⟨v', w', hrun, h2, h3⟩ := run_append_empty (P := P) w t ty e i z bytes ht hi hz hsize hby hzs A0 B A m c news hr (by omega) (by simpa using hbytes)
    refine ⟨v', w', hrun, ?_, h3.mono hbase⟩
    rw [Nat.zero_add, List.nil_append]
    rcases h2 with h2 | h2
    · exact .inl ⟨h2.1, h2.2.imp id (fun ⟨g, cap, cur, e1, e2, e3⟩ => ⟨g, cap, cur, e1, Nat.le_trans hbase e2, e3⟩)⟩
    · exact .inr h2
theorem oe_slice {w : World} {base : Nat} {e : TypeId} {v : Value} {n : Nat} {xs : List Value} (h : OE w base e v n xs) : ∃ (A : Option Addr) (c : Nat), v = .slice A n c ∧ n ≤ c := by
  rcases h with h | ⟨A, rfl, rfl, rfl⟩
  · obtain ⟨A, c, h1, h2, _⟩ := own_slice h; exact ⟨A, c, h1, h2⟩
  · exact ⟨A, 0, rfl, Nat.le_refl _⟩

section
variable {P : Program} (w : World) {ops : Array Oper} {rest : List Oper} {o : Oper} {a : Act} {K : Act → World → Prop} {Q : Exit → Act → World → Prop} {E : Prop} {α : Type} (mk : α → Value) (h1 : ∀ x, (mk x).oneCell' = true)
    (t e : TypeId) (i : TypeInfo) (z : Value) (bytes : Nat) (ht : P.underlying t = some (.slice e)) (hi : P.info? e = some i) (hz : i.zero = some z) (hsize : i.size = 1) (hby : i.bytes = bytes) (hzs : z.cells.size = 1)
    (hgd : o.guard = none) (s x : Operand) (ho : o.op = .call { callee := .builtin .append, args := #[s, x], argTypes := #[t, t] })
    (base : Nat) (v : Value) (n : Nat) (xs : List α) (hs : a.eval s = v) (hown : OE w base e v n (xs.map mk))
    (B : Nat) (A : Option Addr) (m c : Nat) (ys : List α) (hx : a.eval x = .slice A m c) (hr : Reads w B 1 A m (ys.map mk))
    (h63 : n + m ≤ maxLen) (hbytes : (n + m) * bytes ≤ 140737488355328) (hbase : base ≤ w.heap.size)
include h1 ht hi hz hsize hby hzs hgd ho hs hown hx hr h63 hbytes hbase
theorem wp_append_oe
    (h : ∀ (A' : Option Addr) (n' c' : Nat) (w' : World), Hid (n' = n + m) → Hid (n' ≤ c') → OE w' base e (.slice A' n' c') n' ((xs ++ ys).map mk) → Below base w w' → K (a.put o.dst (.slice A' n' c')) w') : o.wp P a w K Q := by
  have _ := hgd
  obtain ⟨v', w', hrun, h2, h3⟩ := run_append_oe (P := P) w t o.type e i z bytes ht hi hz hsize hby hzs base v n (xs.map mk) hown B A m c (ys.map mk) hr (by
    intro u hu
    obtain ⟨y, _, rfl⟩ := List.mem_map.1 hu
    exact h1 y) h63 hbytes hbase
  rw [← List.map_append] at h2
  obtain ⟨A', c', rfl, hc⟩ := oe_slice h2
  unfold Oper.wp execOp
  simp only [ho, resolve, invoke, builtin, Sem.run_bind, Sem.run_pure, Result.andThen_ok, List.map_toArray, List.map_cons, List.map_nil, hs, hx, hrun]
  exact h A' (n + m) c' w' (Lib.hid rfl) (Lib.hid hc) h2 h3
theorem wpList_append_oe
    (h : ∀ (A' : Option Addr) (n' c' : Nat) (w' : World), Hid (n' = n + m) → Hid (n' ≤ c') → OE w' base e (.slice A' n' c') n' ((xs ++ ys).map mk) → Below base w w' → wpList P ops Q rest (a.put o.dst (.slice A' n' c')) w') : wpList P ops Q (o :: rest) a w :=
  wpList_plain hgd fun _ hK => wp_append_oe w mk h1 t e i z bytes ht hi hz hsize hby hzs hgd s x ho base v n xs hs hown B A m c ys hx hr h63 hbytes hbase fun A' n' c' w' h2 h3 h4 h5 => hK _ _ (h A' n' c' w' h2 h3 h4 h5)
theorem step_append_oe
    (h : ∀ (A' : Option Addr) (n' c' : Nat) (w' : World), Hid (n' = n + m) → Hid (n' ≤ c') → OE w' base e (.slice A' n' c') n' ((xs ++ ys).map mk) → Below base w w' → K (a.put o.dst (.slice A' n' c')) w') :
    if Region.wanted o (yielded ops a.tmps) = true then Oper.wp P o a w K Q else E := by
  have hw : Region.wanted o (yielded ops a.tmps) = true := by simp [Region.wanted, hgd]
  rw [if_pos hw]
  exact wp_append_oe w mk h1 t e i z bytes ht hi hz hsize hby hzs hgd s x ho base v n xs hs hown B A m c ys hx hr h63 hbytes hbase h
end
end Go.Proofs.YtpaehicfndkliaaGreatDoor.Na
