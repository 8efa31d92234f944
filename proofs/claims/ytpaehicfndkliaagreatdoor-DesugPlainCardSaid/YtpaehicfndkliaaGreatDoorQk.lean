/- Rows of paths of the reader's own. No condition. -/
import Derived.Test.YtpaehicfndkliaaGreatDoorQj
namespace Go.Proofs.YtpaehicfndkliaaGreatDoor.Pa
open Go.RowKit Go.Lib Na Go.PN

/-- The cells of a row of paths, whose kids lie in none of the blocks X. -/
def CsF (w : World) (X : List Nat) : Fo → List Value → Prop
  | .nil, cs => cs = []
  | .cons k l d mn mx r, cs => ∃ (K : Option Addr) (c : Nat) (cs' : List Value), cs = .int .i64 k :: .string l :: .slice K d.len c :: .int .i64 mn :: .int .i64 mx :: cs' ∧ d.len ≤ c ∧ c ≤ 9223372036854775807 ∧ At w X d K ∧ CsF w X r cs'
section
variable {w w' : World} {X Y : List Nat} {f f2 : Fo} {cs cs2 : List Value}
theorem CsF.keep (h : CsF w X f cs) (hk : ∀ b, b < w.heap.size → b ∉ X → w'.heap[b]? = w.heap[b]?) : CsF w' X f cs := by
  induction f generalizing cs with
  | nil => exact h
  | cons k l d mn mx r _ ih =>
    obtain ⟨K, c, cs', e, h1, h2, h3, h4⟩ := h
    exact ⟨K, c, cs', e, h1, h2, h3.keep hk, ih h4⟩
theorem CsF.grow (h : CsF w X f cs) (hY : ∀ y, y ∈ Y → y ∈ X ∨ w.heap.size ≤ y) : CsF w Y f cs := by
  induction f generalizing cs with
  | nil => exact h
  | cons k l d mn mx r _ ih =>
    obtain ⟨K, c, cs', e, h1, h2, h3, h4⟩ := h
    exact ⟨K, c, cs', e, h1, h2, h3.grow hY, ih h4⟩
theorem CsF.app (h : CsF w X f cs) (h2 : CsF w X f2 cs2) : CsF w X (f.app f2) (cs ++ cs2) := by
  induction f generalizing cs with
  | nil => rw [show cs = [] from h]; exact h2
  | cons k l d mn mx r _ ih =>
    obtain ⟨K, c, cs', rfl, h1, h2', h3, h4⟩ := h
    exact ⟨K, c, cs' ++ cs2, rfl, h1, h2', h3, ih h4⟩
theorem CsF.at {g o : Nat} (h : CsF w X f cs) (hX : g ∉ X) (hc : ∀ j u, cs[j]? = some u → w.cell? ⟨g, o + j, none⟩ = some u) : At w X f (some ⟨g, o, none⟩) := by
  induction f generalizing cs o with
  | nil => trivial
  | cons k l d mn mx r _ ih =>
    obtain ⟨K, c, cs', rfl, h1, h2, h3, h4⟩ := h
    refine ⟨g, o, K, c, rfl, hX, ⟨hc 0 _ rfl, hc 1 _ rfl, hc 2 _ rfl, hc 3 _ rfl, hc 4 _ rfl⟩, h1, h2, h3, ?_⟩
    refine ih h4 (fun j u hj => ?_)
    rw [show o + 5 + j = o + (j + 5) from by omega]
    exact hc (j + 5) u hj
theorem CsF.len (h : CsF w X f cs) : cs.length = f.len * 5 := by
  induction f generalizing cs with
  | nil => rw [show cs = [] from h]; rfl
  | cons k l d mn mx r _ ih =>
    obtain ⟨K, c, cs', rfl, _, _, _, h4⟩ := h
    simp only [List.length_cons, ih h4, Fo.len]; omega
theorem CsF.one {a : Nd} (h : a.ok w X) : CsF w X (a.fo .nil) [.int .i64 a.k, .string a.l, .slice a.A a.kids.len a.c, .int .i64 a.mn, .int .i64 a.mx] := ⟨a.A, a.c, [], rfl, h.1, h.2.1, h.2.2, rfl⟩
end
/-- A row of paths that the call has made, which lies in block g; the kids lie in none of X, nor in g. -/
structure RowS (w : World) (base : Nat) (X : List Nat) (g n c : Nat) (f : Fo) : Prop where
  len : f.len = n
  own : ∃ cs, w.ownsRow base 24 5 (.slice (some ⟨g, 0, none⟩) n c) n cs ∧ CsF w (g :: X) f cs
section
variable {w w' : World} {base : Nat} {X Y : List Nat} {g n c : Nat} {f : Fo}
theorem own_block {e : TypeId} {size : Nat} {cs : List Value} (h : w.ownsRow base e size (.slice (some ⟨g, 0, none⟩) n c) n cs) : ∃ cur, base ≤ g ∧ w.heap[g]? = some (.cells cur e (0, 0)) ∧ n ≤ c ∧ c ≤ maxLen ∧ cur.size = c * size ∧ cur.toList.take (n * size) = cs := by
  rcases h.2 with ⟨e, _⟩ | ⟨g', cap, cur, e, h1, h2, h3, h4, h5, h6⟩
  · cases e
  · injection e with e1 e2 e3
    injection e1 with e1
    injection e1 with e1
    subst e1 e3
    exact ⟨cur, h1, h2, h3, h4, h5, h6⟩
theorem own_keep {e : TypeId} {size : Nat} {cs : List Value} (h : w.ownsRow base e size (.slice (some ⟨g, 0, none⟩) n c) n cs) (hk : w'.heap[g]? = w.heap[g]?) : w'.ownsRow base e size (.slice (some ⟨g, 0, none⟩) n c) n cs := by
  obtain ⟨cur, h1, h2, h3, h4, h5, h6⟩ := own_block h
  exact ⟨h.1, Or.inr ⟨g, c, cur, rfl, h1, hk.trans h2, h3, h4, h5, h6⟩⟩
theorem RowS.g1 (h : RowS w base X g n c f) : base ≤ g ∧ g < w.heap.size ∧ n ≤ c ∧ c ≤ maxLen := by
  obtain ⟨cs, h1, _⟩ := h.own
  obtain ⟨cur, a1, a2, a3, a4, _⟩ := own_block h1
  exact ⟨a1, (Array.getElem?_eq_some_iff.1 a2).1, a3, a4⟩
theorem RowS.kp (h : RowS w base X g n c f) (hk : Kp Y w w') (hY : ∀ y ∈ Y, y ∈ X ∧ y < base) : RowS w' base X g n c f := by
  have hg := h.g1
  obtain ⟨cs, h1, h2⟩ := h.own
  refine ⟨h.len, cs, own_keep h1 (hk.block g hg.2.1 fun hy => ?_), h2.keep fun b hb hbx => hk.block b hb fun hy => hbx (List.mem_cons_of_mem _ (hY b hy).1)⟩
  have := (hY g hy).2; omega
theorem RowS.at (h : RowS w base X g n c f) (hX : ∀ x ∈ X, x < base) : At w X f (some ⟨g, 0, none⟩) := by
  have hg := h.g1
  obtain ⟨cs, h1, h2⟩ := h.own
  refine (h2.grow (Y := X) (fun y hy => Or.inl (List.mem_cons_of_mem _ hy))).at (fun hx => by have := hX g hx; omega) (fun j u hj => ?_)
  have h3 := h1.cells (g := g) rfl j u hj
  have e : (⟨g, 0, none⟩ : Addr).add j = ⟨g, 0 + j, none⟩ := by unfold Addr.add; split <;> simp_all
  rwa [e] at h3
/-- A literal of one path. -/
theorem RowS.one (w : World) (X : List Nat) (base : Nat) (k : Int) (l : ByteArray) (A : Option Addr) (c : Nat) (mn mx : Int) (kids : Fo) (ha : Nd.ok w X ⟨k, l, A, c, mn, mx, kids⟩) (hb : base ≤ w.heap.size) :
    RowS (w.alloc (cells5 k l A kids.len c mn mx)) base X w.heap.size 1 1 (.cons k l kids mn mx .nil) := by
  refine ⟨rfl, [.int .i64 k, .string l, .slice A kids.len c, .int .i64 mn, .int .i64 mx], ⟨by simp, Or.inr ⟨w.heap.size, 1, _, rfl, hb, heap_alloc_new w _, Nat.le_refl _, by decide, rfl, rfl⟩⟩, ?_⟩
  have h1 := (ha.grow2 (Y := w.heap.size :: X) (fun y hy => by
    rcases List.mem_cons.1 hy with e | hy
    · exact Or.inr (by omega)
    · exact Or.inl hy)).al (cells5 k l A kids.len c mn mx)
  exact CsF.one h1
/-- One path more. -/
theorem RowS.push (h : RowS w base X g n c f) (k : Int) (l : ByteArray) (A : Option Addr) (ca : Nat) (mn mx : Int) (kids : Fo) (ha : Nd.ok w (g :: X) ⟨k, l, A, ca, mn, mx, kids⟩)
    {v' : Value} {cs : List Value} (hcs : CsF w (g :: X) f cs) (ho : w'.ownsRow base 24 5 v' (n + 1) (cs ++ [.int .i64 k, .string l, .slice A kids.len ca, .int .i64 mn, .int .i64 mx]))
    (hg : (w.alloc (cells5 k l A kids.len ca mn mx)).grownBy w' (some g)) (hat : v'.ownBlock = some g ∨ v'.ownBlock = some (w.alloc (cells5 k l A kids.len ca mn mx)).heap.size) :
    ∃ g' c', v' = .slice (some ⟨g', 0, none⟩) (n + 1) c' ∧ RowS w' base X g' (n + 1) c' (f.app (.cons k l kids mn mx .nil)) := by
  obtain ⟨g', cap, hv, _, _⟩ := ho.form (by omega)
  subst hv
  refine ⟨g', cap, rfl, by rw [Fo.app_len, h.len]; rfl, _, ho, ?_⟩
  have hgg : g' = g ∨ g' = (w.alloc (cells5 k l A kids.len ca mn mx)).heap.size := by
    rcases hat with e | e
    · exact Or.inl (Option.some.inj e)
    · exact Or.inr (Option.some.inj e)
  have c1 : CsF w (g :: X) (f.app (.cons k l kids mn mx .nil)) (cs ++ [.int .i64 k, .string l, .slice A kids.len ca, .int .i64 mn, .int .i64 mx]) := hcs.app (CsF.one ha)
  have c2 : CsF (w.alloc (cells5 k l A kids.len ca mn mx)) (g :: X) (f.app (.cons k l kids mn mx .nil)) (cs ++ [.int .i64 k, .string l, .slice A kids.len ca, .int .i64 mn, .int .i64 mx]) :=
    c1.keep fun b hb _ => Below.heap_alloc _ _ _ hb
  have c3 := c2.grow (Y := g' :: g :: X) (fun y hy => by
    rcases List.mem_cons.1 hy with e | hy
    · rcases hgg with e2 | e2
      · exact Or.inl (by simp [e, e2])
      · exact Or.inr (by omega)
    · exact Or.inl hy)
  have c4 : CsF w' (g' :: g :: X) (f.app (.cons k l kids mn mx .nil)) (cs ++ [.int .i64 k, .string l, .slice A kids.len ca, .int .i64 mn, .int .i64 mx]) :=
    c3.keep fun b hb hbx => hg.block b hb fun e => hbx (by injection e with e; simp [e])
  exact c4.grow fun y hy => Or.inl (by rcases List.mem_cons.1 hy with e | hy <;> simp [*])
end
end Go.Proofs.YtpaehicfndkliaaGreatDoor.Pa
