import Derived.Test.YtpaehicfndkliaaGreatDoorQj
import Derived.Test.YtpaehicfndkliaaGreatDoorPo
import Derived.Maps.AppendAt

/- Rows of paths of the reader's own. No condition. -/
namespace Go.Proofs.YtpaehicfndkliaaGreatDoor.Pa
open Go.RowKit Go.Lib Na Go.PN

/-- The cells of a row of paths, whose kids lie in none of the blocks X. -/
def CsF (w : World) (X : List Nat) : Fo → List Value → Prop
  | .nil, cs => cs = []
  | .cons k l d mn mx r, cs => ∃ (K : Option Addr) (c : Nat) (cs' : List Value), cs = .int .i64 k :: .string l :: .slice K d.len c :: .int .i64 mn :: .int .i64 mx :: cs' ∧ d.len ≤ c ∧ c ≤ 9223372036854775807 ∧ At w X d K ∧ CsF w X r cs'
section
variable {w w' : World} {X Y : List Nat} {f f2 : Fo} {cs cs2 : List Value}
theorem CsF.keep (h : CsF w X f cs) (hk : ∀ b, b < w.heap.size → b ∉ X → w'.heap[b]? = w.heap[b]?) : CsF w' X f cs := by
  induction f generalizing cs with
  | nil => exact h
  | cons k l d mn mx r _ ih =>
    obtain ⟨K, c, cs', e, h1, h2, h3, h4⟩ := h
    exact ⟨K, c, cs', e, h1, h2, h3.keep hk, ih h4⟩
theorem CsF.grow (h : CsF w X f cs) (hY : ∀ y, y ∈ Y → y ∈ X ∨ w.heap.size ≤ y) : CsF w Y f cs := by
  induction f generalizing cs with
  | nil => exact h
  | cons k l d mn mx r _ ih =>
    obtain ⟨K, c, cs', e, h1, h2, h3, h4⟩ := h
    exact ⟨K, c, cs', e, h1, h2, h3.grow hY, ih h4⟩
theorem CsF.app (h : CsF w X f cs) (h2 : CsF w X f2 cs2) : CsF w X (f.app f2) (cs ++ cs2) := by
  induction f generalizing cs with
  | nil => rw [show cs = [] from h]; exact h2
  | cons k l d mn mx r _ ih =>
    obtain ⟨K, c, cs', rfl, h1, h2', h3, h4⟩ := h
    exact ⟨K, c, cs' ++ cs2, rfl, h1, h2', h3, ih h4⟩
theorem CsF.at {g o : Nat} (h : CsF w X f cs) (hX : g ∉ X) (hc : ∀ j u, cs[j]? = some u → w.cell? ⟨g, o + j, none⟩ = some u) : At w X f (some ⟨g, o, none⟩) := by
  induction f generalizing cs o with
  | nil => trivial
  | cons k l d mn mx r _ ih =>
    obtain ⟨K, c, cs', rfl, h1, h2, h3, h4⟩ := h
    refine ⟨g, o, K, c, rfl, hX, ⟨hc 0 _ rfl, hc 1 _ rfl, hc 2 _ rfl, hc 3 _ rfl, hc 4 _ rfl⟩, h1, h2, h3, ?_⟩
    refine ih h4 (fun j u hj => ?_)
    rw [show o + 5 + j = o + (j + 5) from by omega]
    exact hc (j + 5) u hj
theorem CsF.len (h : CsF w X f cs) : cs.length = f.len * 5 := by
  induction f generalizing cs with
  | nil => rw [show cs = [] from h]; rfl
  | cons k l d mn mx r _ ih =>
    obtain ⟨K, c, cs', rfl, _, _, _, h4⟩ := h
    simp only [List.length_cons, ih h4, Fo.len]; omega
theorem CsF.one {a : Nd} (h : a.ok w X) : CsF w X (a.fo .nil) [.int .i64 a.k, .string a.l, .slice a.A a.kids.len a.c, .int .i64 a.mn, .int .i64 a.mx] := ⟨a.A, a.c, [], rfl, h.1, h.2.1, h.2.2, rfl⟩
end
/-- A row of paths that the call has made, which lies in block g; the kids lie in none of X, nor in g. -/
structure RowS (w : World) (base : Nat) (X : List Nat) (g n c : Nat) (f : Fo) : Prop where
  len : f.len = n
  own : ∃ cs, w.ownsRow base 24 5 (.slice (some ⟨g, 0, none⟩) n c) n cs ∧ CsF w (g :: X) f cs
section
variable {w w' : World} {base : Nat} {X Y : List Nat} {g n c : Nat} {f : Fo}
theorem own_block {e : TypeId} {size : Nat} {cs : List Value} (h : w.ownsRow base e size (.slice (some ⟨g, 0, none⟩) n c) n cs) : ∃ cur, base ≤ g ∧ w.heap[g]? = some (.cells cur e (0, 0)) ∧ n ≤ c ∧ c ≤ maxLen ∧ cur.size = c * size ∧ cur.toList.take (n * size) = cs := by
  rcases h.2 with ⟨e, _⟩ | ⟨g', cap, cur, e, h1, h2, h3, h4, h5, h6⟩
  · cases e
  · injection e with e1 e2 e3
    injection e1 with e1
    injection e1 with e1
    subst e1 e3
    exact ⟨cur, h1, h2, h3, h4, h5, h6⟩
theorem own_keep {e : TypeId} {size : Nat} {cs : List Value} (h : w.ownsRow base e size (.slice (some ⟨g, 0, none⟩) n c) n cs) (hk : w'.heap[g]? = w.heap[g]?) : w'.ownsRow base e size (.slice (some ⟨g, 0, none⟩) n c) n cs := by
  obtain ⟨cur, h1, h2, h3, h4, h5, h6⟩ := own_block h
  exact ⟨h.1, Or.inr ⟨g, c, cur, rfl, h1, hk.trans h2, h3, h4, h5, h6⟩⟩
theorem RowS.g1 (h : RowS w base X g n c f) : base ≤ g ∧ g < w.heap.size ∧ n ≤ c ∧ c ≤ maxLen := by
  obtain ⟨cs, h1, _⟩ := h.own
  obtain ⟨cur, a1, a2, a3, a4, _⟩ := own_block h1
  exact ⟨a1, (Array.getElem?_eq_some_iff.1 a2).1, a3, a4⟩
theorem RowS.kp (h : RowS w base X g n c f) (hk : Kp Y w w') (hY : ∀ y ∈ Y, y ∈ X ∧ y < base) : RowS w' base X g n c f := by
  have hg := h.g1
  obtain ⟨cs, h1, h2⟩ := h.own
  refine ⟨h.len, cs, own_keep h1 (hk.block g hg.2.1 fun hy => ?_), h2.keep fun b hb hbx => hk.block b hb fun hy => hbx (List.mem_cons_of_mem _ (hY b hy).1)⟩
  have := (hY g hy).2; omega
theorem RowS.at (h : RowS w base X g n c f) (hX : ∀ x ∈ X, x < base) : At w X f (some ⟨g, 0, none⟩) := by
  have hg := h.g1
  obtain ⟨cs, h1, h2⟩ := h.own
  refine (h2.grow (Y := X) (fun y hy => Or.inl (List.mem_cons_of_mem _ hy))).at (fun hx => by have := hX g hx; omega) (fun j u hj => ?_)
  have h3 := h1.cells (g := g) rfl j u hj
  have e : (⟨g, 0, none⟩ : Addr).add j = ⟨g, 0 + j, none⟩ := by unfold Addr.add; split <;> simp_all
  rwa [e] at h3
/-- A literal of one path. -/
theorem RowS.one (w : World) (X : List Nat) (base : Nat) (k : Int) (l : ByteArray) (A : Option Addr) (c : Nat) (mn mx : Int) (kids : Fo) (ha : Nd.ok w X ⟨k, l, A, c, mn, mx, kids⟩) (hb : base ≤ w.heap.size) :
    RowS (w.alloc (cells5 k l A kids.len c mn mx)) base X w.heap.size 1 1 (.cons k l kids mn mx .nil) := by
  refine ⟨rfl, [.int .i64 k, .string l, .slice A kids.len c, .int .i64 mn, .int .i64 mx], ⟨by simp, Or.inr ⟨w.heap.size, 1, _, rfl, hb, heap_alloc_new w _, Nat.le_refl _, by decide, rfl, rfl⟩⟩, ?_⟩
  have h1 := (ha.grow2 (Y := w.heap.size :: X) (fun y hy => by
    rcases List.mem_cons.1 hy with e | hy
    · exact Or.inr (by omega)
    · exact Or.inl hy)).al (cells5 k l A kids.len c mn mx)
  exact CsF.one h1
/-- One path more. -/
theorem RowS.push (h : RowS w base X g n c f) (k : Int) (l : ByteArray) (A : Option Addr) (ca : Nat) (mn mx : Int) (kids : Fo) (ha : Nd.ok w (g :: X) ⟨k, l, A, ca, mn, mx, kids⟩)
    {v' : Value} {cs : List Value} (hcs : CsF w (g :: X) f cs) (ho : w'.ownsRow base 24 5 v' (n + 1) (cs ++ [.int .i64 k, .string l, .slice A kids.len ca, .int .i64 mn, .int .i64 mx]))
    (hg : (w.alloc (cells5 k l A kids.len ca mn mx)).grownBy w' (some g)) (hat : v'.ownBlock = some g ∨ v'.ownBlock = some (w.alloc (cells5 k l A kids.len ca mn mx)).heap.size) :
    ∃ g' c', v' = .slice (some ⟨g', 0, none⟩) (n + 1) c' ∧ RowS w' base X g' (n + 1) c' (f.app (.cons k l kids mn mx .nil)) := by
  obtain ⟨g', cap, hv, _, _⟩ := ho.form (by omega)
  subst hv
  refine ⟨g', cap, rfl, by rw [Fo.app_len, h.len]; rfl, _, ho, ?_⟩
  have hgg : g' = g ∨ g' = (w.alloc (cells5 k l A kids.len ca mn mx)).heap.size := by
    rcases hat with e | e
    · exact Or.inl (Option.some.inj e)
    · exact Or.inr (Option.some.inj e)
  have c1 : CsF w (g :: X) (f.app (.cons k l kids mn mx .nil)) (cs ++ [.int .i64 k, .string l, .slice A kids.len ca, .int .i64 mn, .int .i64 mx]) := hcs.app (CsF.one ha)
  have c2 : CsF (w.alloc (cells5 k l A kids.len ca mn mx)) (g :: X) (f.app (.cons k l kids mn mx .nil)) (cs ++ [.int .i64 k, .string l, .slice A kids.len ca, .int .i64 mn, .int .i64 mx]) :=
    c1.keep fun b hb _ => Below.heap_alloc _ _ _ hb
  have c3 := c2.grow (Y := g' :: g :: X) (fun y hy => by
    rcases List.mem_cons.1 hy with e | hy
    · rcases hgg with e2 | e2
      · exact Or.inl (by simp [e, e2])
      · exact Or.inr (by omega)
    · exact Or.inl hy)
  have c4 : CsF w' (g' :: g :: X) (f.app (.cons k l kids mn mx .nil)) (cs ++ [.int .i64 k, .string l, .slice A kids.len ca, .int .i64 mn, .int .i64 mx]) :=
    c3.keep fun b hb hbx => hg.block b hb fun e => hbx (by injection e with e; simp [e])
  exact c4.grow fun y hy => Or.inl (by rcases List.mem_cons.1 hy with e | hy <;> simp [*])
end
end Go.Proofs.YtpaehicfndkliaaGreatDoor.Pa


/- The walk of the reader's 'row', with each of its two function values. Condition: the reader lies in memory; what the function value does is known. -/
namespace Go.Proofs.YtpaehicfndkliaaGreatDoor.Pa
open Go.RowKit Go.Lib Na Go.PN

theorem infoPath : (Tryz.prog.info? 24).map (fun i => (i.zero, i.size, i.bytes)) = some (some (.agg #[.int .i64 0, .string ⟨#[]⟩, .slice none 0 0, .int .i64 0, .int .i64 0]), 5, 64) := by kernel_rfl
theorem iPath : ∃ i, Tryz.prog.info? 24 = some i ∧ i.zero = some (.agg #[.int .i64 0, .string ⟨#[]⟩, .slice none 0 0, .int .i64 0, .int .i64 0]) ∧ i.size = 5 ∧ i.bytes = 64 := by
  have h := infoPath
  cases hi : Tryz.prog.info? 24 with
  | none => rw [hi] at h; cases h
  | some i =>
    rw [hi] at h
    simp only [Option.map_some, Option.some.injEq, Prod.mk.injEq] at h
    exact ⟨i, rfl, h.1, h.2.1, h.2.2⟩
theorem lit5 (w : World) (v0 v1 v2 v3 v4 : Value) (T : TypeId) : ∀ j u, [v0, v1, v2, v3, v4][j]? = some u → (w.alloc (.cells #[v0, v1, v2, v3, v4] T)).cell? ((⟨w.heap.size, 0, none⟩ : Addr).add j) = some u := by
  intro j u hj
  have e : (⟨w.heap.size, 0, none⟩ : Addr).add j = ⟨w.heap.size, 0 + j, none⟩ := by unfold Addr.add; split <;> simp_all
  rw [e]
  have hb := Bx.new w v0 v1 v2 v3 v4 T
  match j, hj with
  | 0, hj => injection hj with hj; subst hj; exact hb.c0
  | 1, hj => injection hj with hj; subst hj; exact hb.c1
  | 2, hj => injection hj with hj; subst hj; exact hb.c2
  | 3, hj => injection hj with hj; subst hj; exact hb.c3
  | 4, hj => injection hj with hj; subst hj; exact hb.c4
  | _ + 5, hj => cases hj
theorem cells1 (k : Int) (l : ByteArray) (A : Option Addr) (n c : Nat) (mn mx : Int) : ∀ u ∈ [Value.int .i64 k, .string l, .slice A n c, .int .i64 mn, .int .i64 mx], u.oneCell' = true := by
  intro u hu
  simp only [List.mem_cons, List.not_mem_nil, or_false] at hu
  rcases hu with rfl | rfl | rfl | rfl | rfl <;> rfl
def rowE (k : Int) (r : Option (Fo × List UInt8)) : Option (Fo × List UInt8) := r.map fun x => (if x.1.len = 1 then x.1 else one1 k [] x.1 0 0, x.2)
theorem rowR_eq {k : Int} {sep : UInt8} {one : Rd} {t u : List UInt8} {p : Fo} (h : one t = some (p, u)) : rowR k sep one t = rowE k (rowL one sep u.length p u) := by
  unfold rowR rowE
  rw [h]
  simp only
  cases rowL one sep u.length p u <;> rfl
theorem rowL_next {one : Rd} {sep : UInt8} {m : Nat} {f : Fo} {u : List UInt8} : rowL one sep (m + 1) f (sep :: u) = match one u with | some (p, v) => rowL one sep m (f.app p) v | none => none := by
  rw [rowL, if_pos rfl]
  cases one u <;> rfl
set_option maxRecDepth 100000 in
set_option maxHeartbeats 16000000 in
theorem row_seq (R : Nat) (s : ByteArray) (d : Int) (one : Rd) (hm : s.size ≤ 1000000) (X : List Nat) (t : List UInt8) (w : World) (hX : R ∈ X) (hXs : ∀ x ∈ X, x < w.heap.size) (ht : Sf s t) (h : RS w R s (pos s t) d) (hE : Er w R)
    (HONE0 : ∀ (X : List Nat) (t : List UInt8) (w1 : World), R ∈ X → (∀ x ∈ X, x < w1.heap.size) → Sf s t → RS w1 R s (pos s t) d → Er w1 R → Kp [R] w w1 → Calls Tryz.prog 109 #[.pointer (some ⟨R, 0, none⟩)] w1 (RdP R X s d (one t) w1))
    (hsuf : ∀ t p u, one t = some (p, u) → ∃ q, t = q ++ u) :
    Calls Tryz.prog 107 #[.pointer (some ⟨R, 0, none⟩), .int .i64 4, .int .u8 47, .func (.func 109) #[.pointer (some ⟨R, 0, none⟩)] #[]] w (RdP R X s d (rowR 4 47 one t) w) := by
  obtain ⟨iP, hi, hz0, hz1, hz2⟩ := iPath
  have HX := Lib.hid hX
  have HXS := Lib.hid hXs
  clear hX hXs
  have hRlt := h.lt
  have hneZ : w.heap.size ∉ [R] := by simp; omega
  have HR1 := Lib.hid (h.al zero5)
  have HK1 := Lib.hid ((Kp.refl [R] w).alloc zero5)
  have HE1 := Lib.hid (hE.keep HK1.out)
  have HER := Lib.hid (fun (w' : World) (hk : Kp [R] w w') => hE.keep hk)
  have HZ1 := Lib.hid (Bx.new w (.int .i64 0) (.string ⟨#[]⟩) (.slice none 0 0) (.int .i64 0) (.int .i64 0) 24)
  have HZL := Lib.hid HZ1.out.lt
  have HONE := Lib.hid HONE0
  have HA := Lib.hid (fun (w1 : World) (h0 : w.heap.size < w1.heap.size) (h1 : RS w1 R s (pos s t) d) (h2 : Er w1 R) (h3 : Kp [R] w w1) => HONE0 (w.heap.size :: X) t w1 (List.mem_cons_of_mem _ HX.out) (fun x hx => by rcases List.mem_cons.1 hx with rfl | hx; exact h0; have := HXS.out x hx; omega) ht h1 h2 h3)
  have HM := Lib.hid hm
  have HSUF := Lib.hid hsuf
  clear h hE HONE0 hsuf
  rcases hx : one t with _ | ⟨p0, u0⟩
  · have e : rowR 4 47 one t = none := by unfold rowR; rw [hx]
    rw [rdp_none e]
    rw [hx] at HA
    have HA2 : Hid (∀ w1 : World, w.heap.size < w1.heap.size → RS w1 R s (pos s t) d → Er w1 R → Kp [R] w w1 → Calls Tryz.prog 109 #[.pointer (some ⟨R, 0, none⟩)] w1 (Left R w1)) := HA.out
    clear hx HA e
    go_enter Tryz.func107, Tryz.ntmps107
    go_wp2_with (first
      | (go_at_call 109; (with_reducible refine (HA2.out _ HZL.out HR1.out HE1.out HK1.out).mono ?_); rintro e w' ⟨b, x, rfl, hl1, hl2, hl3, hl4⟩))
    exact ⟨rfl, Left.after HK1.out ⟨b, x, rfl, hl1, hl2, hl3, hl4⟩⟩
  · obtain ⟨q0, hq0⟩ := HSUF.out t p0 u0 hx
    have hf0 := Lib.hid (ht.suf hq0)
    obtain ⟨RES, hRES⟩ : ∃ RES, rowL one 47 u0.length p0 u0 = RES := ⟨_, rfl⟩
    have HRW := Lib.hid (show rowR 4 47 one t = rowE 4 RES by rw [← hRES]; exact rowR_eq hx)
    have HRES := Lib.hid hRES
    rw [hx] at HA
    have HA2 : Hid (∀ w1 : World, w.heap.size < w1.heap.size → RS w1 R s (pos s t) d → Er w1 R → Kp [R] w w1 → Calls Tryz.prog 109 #[.pointer (some ⟨R, 0, none⟩)] w1 fun e w' => ∃ a : Nd, e = .returned a.v ∧ a.fo .nil = p0 ∧ a.ok w' (w.heap.size :: X) ∧ Kp [R] w1 w' ∧ RS w' R s (pos s u0) d) := HA.out
    have hul : u0.length ≤ s.size := hf0.out.le
    have HQ0 := Lib.hid (Nat.le_refl u0.length)
    clear hx HA hRES hq0
    obtain ⟨SP, hSP⟩ : ∃ SP, rowR 4 47 one t = SP := ⟨_, rfl⟩
    rw [hSP] at HRW ⊢
    clear hSP
    go_enter Tryz.func107, Tryz.ntmps107
    go_wp2_with (first
      | (go_at_call 109; (with_reducible refine (HA2.out _ HZL.out HR1.out HE1.out HK1.out).mono ?_); rintro e w2 ⟨⟨k, l, A, c1, mn, mx, kids⟩, rfl, hp, hok, hk2, hr2⟩; have HP := Lib.hid hp; have hzz : w.heap.size < w2.heap.size := Nat.lt_of_lt_of_le HZL.out hk2.size; have HS2 := Lib.hid (RowS.one w2 (w.heap.size :: X) (w.heap.size + 1) k l A c1 mn mx kids hok hzz); have HK2 := Lib.hid ((HK1.out.trans hk2).alloc (cells5 k l A kids.len c1 mn mx)); have HR2 := Lib.hid (hr2.al (cells5 k l A kids.len c1 mn mx)); have HZ2 := Lib.hid ((HZ1.out.kp hk2 hneZ).al (cells5 k l A kids.len c1 mn mx)); have HE2 := Lib.hid (HER.out _ HK2.out); clear hp hok hk2 hr2))
    go_loopw [9] (fun lv wr => ∃ (g n c : Nat) (f : Fo) (tc : List UInt8) (fuel : Nat), lv = .slice (some ⟨g, 0, none⟩) n c ∧ n + tc.length ≤ s.size + 1 ∧ 1 ≤ n ∧ Hid (tc.length ≤ fuel) ∧ Hid (Sf s tc) ∧ Hid (RS wr R s (pos s tc) d) ∧ Hid (Kp [R] w wr) ∧ Hid (Er wr R) ∧ Hid (Bx wr w.heap.size (.int .i64 0) (.string ⟨#[]⟩) (.slice none 0 0) (.int .i64 0) (.int .i64 0)) ∧ Hid (RowS wr (w.heap.size + 1) (w.heap.size :: X) g n c f) ∧ Hid (rowL one 47 fuel f tc = RES)) (fun _ wr => s.size - rdAt wr R)
    case atStart => exact ⟨w2.heap.size, 1, 1, _, u0, u0.length, rfl, by omega, Nat.le_refl _, HQ0, hf0, HR2, HK2, HE2, HZ2, HS2, by rw [show Fo.cons k l kids mn mx .nil = p0 from HP.out]; exact HRES⟩
    case round =>
      obtain ⟨g, n, c, f, tc, fuel, rfl, hn, hn1, HFU, HF, HR5, HK5, HE5, HZ5, HS5, HRE⟩ := hrel
      clear HR2 HK2 HE2 HZ2 HS2 hf0 HRES HP HR1 HK1 HE1 HZ1 HQ0
      have HI := Lib.hid (fun (w1 : World) (h1 : RS w1 R s (pos s tc) d) => is_rd R s d 47 47 rfl tc w1 h1 HF.out HM.out)
      cases hs : hd 47 tc
      · rw [hs] at HI
        simp only [Bool.false_eq_true, if_false] at HI
        have hre := Lib.hid (show RES = some (f, tc) by
          rw [← HRE.out, rowL_stop _ _ _ _ _ (fun c hc e => hd_false hs (by rw [hc, e]))])
        clear hs
        have hg := HS5.out.g1
        have HXB := Lib.hid (show ∀ x ∈ w.heap.size :: X, x < w.heap.size + 1 from fun x hx => by
          rcases List.mem_cons.1 hx with rfl | hx
          · omega
          · have := HXS.out x hx; omega)
        have hfl := HS5.out.len
        by_cases hn2 : n = 1
        · subst hn2
          obtain ⟨k, l, d0, mn, mx, rfl⟩ := one_len hfl
          have hres := Lib.hid (show SP = some (.cons k l d0 mn mx .nil, tc) by rw [HRW.out, hre.out]; rfl)
          have hat := HS5.out.at HXB.out
          obtain ⟨b', o', K, c', eb, _, hcel, h1, h2, h3, _⟩ := hat
          injection eb with eb
          injection eb with eb1 eb2
          subst eb1 eb2
          have HCL := Lib.hid hcel
          have HAK := Lib.hid (show Nd.ok wr (w.heap.size :: X) ⟨k, l, K, c', mn, mx, d0⟩ from ⟨h1, h2, h3⟩)
          clear hcel h1 h2 h3 hfl
          go_wp2_with (first
            | (go_at_call 117; (with_reducible refine (HI.out _ HR5.out).mono ?_); rintro e w6 ⟨rfl, hk6, hr6⟩; have hk6x := hk6; have HR6 := Lib.hid hr6; have HK6 := Lib.hid (HK5.out.trans hk6); have HE6 := Lib.hid (HE5.out.keep hk6); have HZ6 := Lib.hid (HZ5.out.kp hk6 hneZ); have HS6 := Lib.hid (HS5.out.kp hk6 (by simp [HX.out]; omega)); clear hk6 hr6; have HCL6 := Lib.hid (HCL.out.keep (hk6x.block _ hg.2.1 (by simp; omega))); have HAK6 := Lib.hid (hk6x.nd2 (by simp [HX.out]) HAK.out); have x0 := HCL6.out.1; have x1 := HCL6.out.2.1; have x2 := HCL6.out.2.2.1; have x3 := HCL6.out.2.2.2.1; have x4 := HCL6.out.2.2.2.2; have z0 := HZ6.out.c0; have y0 := HZ6.out.f0; have z1 := HZ6.out.c1; have y1 := HZ6.out.f1; have z2 := HZ6.out.c2; have y2 := HZ6.out.f2; have z3 := HZ6.out.c3; have y3 := HZ6.out.f3; have z4 := HZ6.out.c4; have y4 := HZ6.out.f4))
          exact bodyPost_ret (v := .agg #[.int .i64 k, .string l, .slice K d0.len c', .int .i64 mn, .int .i64 mx]) (by simp [results, Tryz.results107, go_sem, z0, z1, z2, z3, z4]) rfl (by rw [rdp_some hres.out]; exact ⟨⟨k, l, K, c', mn, mx, d0⟩, rfl, rfl, (HAK6.out.w5 (b := w.heap.size) (by simp)).less (by intro y hy; simp [hy]), HK6.out.w5 (Or.inr (Nat.le_refl _)), HR6.out.w5 (by omega)⟩)
        · have hres := Lib.hid (show SP = some (one1 4 [] f 0 0, tc) by rw [HRW.out, hre.out]; unfold rowE; simp only [Option.map_some]; rw [if_neg (by omega)])
          have hflc := Lib.hid hfl
          subst hfl
          have tn : ((f.len : Int) == 1) = false := by rw [beq_eq_false_iff_ne]; omega
          clear hn2
          go_wp2_with (first
            | (go_at_call 117; (with_reducible refine (HI.out _ HR5.out).mono ?_); rintro e w6 ⟨rfl, hk6, hr6⟩; have HR6 := Lib.hid hr6; have HK6 := Lib.hid (HK5.out.trans hk6); have HE6 := Lib.hid (HE5.out.keep hk6); have HZ6 := Lib.hid (HZ5.out.kp hk6 hneZ); have HS6 := Lib.hid (HS5.out.kp hk6 (by simp [HX.out]; omega)); clear hk6 hr6; have z0 := HZ6.out.c0; have y0 := HZ6.out.f0; have z1 := HZ6.out.c1; have y1 := HZ6.out.f1; have z2 := HZ6.out.c2; have y2 := HZ6.out.f2; have z3 := HZ6.out.c3; have y3 := HZ6.out.f3; have z4 := HZ6.out.c4; have y4 := HZ6.out.f4))
          exact bodyPost_ret (v := .agg #[.int .i64 4, .string ⟨#[]⟩, .slice (some ⟨g, 0, none⟩) f.len c, .int .i64 0, .int .i64 0]) (by simp [results, Tryz.results107, go_sem, z0, z1, z2, z3, z4]) rfl (by rw [rdp_some hres.out]; exact ⟨⟨4, ⟨#[]⟩, some ⟨g, 0, none⟩, c, 0, 0, f⟩, rfl, rfl, (Nd.ok.w5 (a := ⟨4, ⟨#[]⟩, some ⟨g, 0, none⟩, c, 0, 0, f⟩) (b := w.heap.size) ⟨hg.2.2.1, hg.2.2.2, HS6.out.at HXB.out⟩ (by simp)).less (by intro y hy; simp [hy]), HK6.out.w5 (Or.inr (Nat.le_refl _)), HR6.out.w5 (by omega)⟩)
      · obtain ⟨uc, rfl⟩ := hd_true hs
        rw [hs] at HI
        simp only [if_true, List.tail_cons] at HI
        have hfu := Lib.hid HF.out.next.1
        obtain ⟨m, rfl⟩ : ∃ m, fuel = m + 1 := ⟨fuel - 1, by have := HFU.out; rw [List.length_cons] at this; omega⟩
        have hg := HS5.out.g1
        have HRL := Lib.hid (HRE.out.symm.trans rowL_next)
        have HA := Lib.hid (fun (w1 : World) (h0 : w.heap.size < w1.heap.size ∧ g < w1.heap.size) (h1 : RS w1 R s (pos s uc) d) (h2 : Er w1 R) (h3 : Kp [R] w w1) => HONE.out (g :: w.heap.size :: X) uc w1 (by simp [HX.out]) (fun x hx => by
          rcases List.mem_cons.1 hx with rfl | hx
          · exact h0.2
          rcases List.mem_cons.1 hx with rfl | hx
          · exact h0.1
          · have := HXS.out x hx; omega) hfu.out h1 h2 h3)
        rcases hx : one uc with _ | ⟨p, v⟩
        · have hre := Lib.hid (show SP = none by rw [HRW.out, HRL.out, hx]; rfl)
          rw [hx] at HA
          have HA3 : Hid (∀ w1 : World, w.heap.size < w1.heap.size ∧ g < w1.heap.size → RS w1 R s (pos s uc) d → Er w1 R → Kp [R] w w1 → Calls Tryz.prog 109 #[.pointer (some ⟨R, 0, none⟩)] w1 (Left R w1)) := HA.out
          clear hs hx HA
          go_wp2_with (first
            | (go_at_call 117; (with_reducible refine (HI.out _ HR5.out).mono ?_); rintro e w6 ⟨rfl, hk6, hr6⟩; have HR6 := Lib.hid hr6; have HK6 := Lib.hid (HK5.out.trans hk6); have HE6 := Lib.hid (HE5.out.keep hk6); have HZ6 := Lib.hid (HZ5.out.kp hk6 hneZ); have HS6 := Lib.hid (HS5.out.kp hk6 (by simp [HX.out]; omega)); clear hk6 hr6)
            | (go_at_call 109; (with_reducible refine (HA3.out _ ⟨HZ6.out.lt, HS6.out.g1.2.1⟩ HR6.out HE6.out HK6.out).mono ?_); rintro e w' ⟨b, x, rfl, hl1, hl2, hl3, hl4⟩))
          exact ⟨rfl, by rw [rdp_none hre.out]; exact Left.after HK6.out ⟨b, x, rfl, hl1, hl2, hl3, hl4⟩⟩
        · have hre := Lib.hid (show rowL one 47 m (f.app p) v = RES by rw [HRL.out, hx])
          obtain ⟨qs, hqs⟩ := HSUF.out uc p v hx
          have hfv := Lib.hid (hfu.out.suf hqs)
          have hvl := congrArg List.length hqs
          rw [List.length_append] at hvl
          rw [List.length_cons] at hn
          have hfu2 := Lib.hid (show v.length ≤ m by have := HFU.out; rw [List.length_cons] at this; omega)
          rw [hx] at HA
          have HA3 : Hid (∀ w1 : World, w.heap.size < w1.heap.size ∧ g < w1.heap.size → RS w1 R s (pos s uc) d → Er w1 R → Kp [R] w w1 → Calls Tryz.prog 109 #[.pointer (some ⟨R, 0, none⟩)] w1 fun e w' => ∃ a : Nd, e = .returned a.v ∧ a.fo .nil = p ∧ a.ok w' (g :: w.heap.size :: X) ∧ Kp [R] w1 w' ∧ RS w' R s (pos s v) d) := HA.out
          have hvn : n + 1 + v.length ≤ s.size + 1 := by omega
          have hvm : v.length ≤ uc.length := by omega
          have hucs := hfu.out.le
          clear hs hx HA hqs
          go_wp2_with (first
            | (go_at_call 117; (with_reducible refine (HI.out _ HR5.out).mono ?_); rintro e w6 ⟨rfl, hk6, hr6⟩; have HR6 := Lib.hid hr6; have HK6 := Lib.hid (HK5.out.trans hk6); have HE6 := Lib.hid (HE5.out.keep hk6); have HZ6 := Lib.hid (HZ5.out.kp hk6 hneZ); have HS6 := Lib.hid (HS5.out.kp hk6 (by simp [HX.out]; omega)); clear hk6 hr6)
            | (go_at_call 109; (with_reducible refine (HA3.out _ ⟨HZ6.out.lt, HS6.out.g1.2.1⟩ HR6.out HE6.out HK6.out).mono ?_); rintro e w7 ⟨⟨k, l, A, c1, mn, mx, kids⟩, rfl, hp, hok, hk7, hr7⟩; have HP := Lib.hid hp; have HOK := Lib.hid hok; have HK7 := Lib.hid (HK6.out.trans hk7); have HR7 := Lib.hid (hr7.al (cells5 k l A kids.len c1 mn mx)); have HS7 := Lib.hid (HS6.out.kp hk7 (by simp [HX.out]; omega)); have HZ7 := Lib.hid ((HZ6.out.kp hk7 hneZ).al (cells5 k l A kids.len c1 mn mx)); have HW7 := Lib.hid (show w.heap.size < w7.heap.size from Nat.lt_of_lt_of_le HZ6.out.lt hk7.size); clear hp hok hk7 hr7; obtain ⟨cs, hown, hcs⟩ := HS7.out.own; have HCS := Lib.hid hcs; have HOWN := Lib.hid (hown.alloc (cells5 k l A kids.len c1 mn mx)); clear hown hcs)
            | (refine wpList_append_own_at _ rfl (.tmp 16) (.tmp 19) 22 rfl (w.heap.size + 1) 24 iP _ 5 64 Tryz.underlying22 hi hz0 hz1 hz2 rfl (by decide) (.slice (some ⟨g, 0, none⟩) n c) n cs rfl HOWN.out ⟨w7.heap.size, 0, none⟩ 1 1 [.int .i64 k, .string l, .slice A kids.len c1, .int .i64 mn, .int .i64 mx] rfl rfl (lit5 w7 _ _ _ _ _ _) (cells1 _ _ _ _ _ _ _) (by unfold maxLen; omega) (by omega) (by have := HW7.out; simp; omega) ?_; intro v' w8 hown8 hgrow _ hat8; have HG8 := Lib.hid hgrow; obtain ⟨g', c', rfl, hrs⟩ := HS7.out.push k l A c1 mn mx kids HOK.out HCS.out hown8 hgrow hat8; have HS8 := Lib.hid hrs; clear hrs hown8 hgrow hat8))
          have hgn := HS7.out.g1
          have hgr := HG8.out
          have hk8 : Kp [R] w w8 := ⟨hgr.os.trans (HK7.out.alloc _).os, hgr.tape.trans (HK7.out.alloc _).tape, hgr.output.trans (HK7.out.alloc _).output, Nat.le_trans (HK7.out.alloc _).size hgr.size, fun b hb hx => (hgr.block b (Nat.lt_of_lt_of_le hb (HK7.out.alloc _).size) (fun e => by have e2 : b = g := Option.some.inj e; omega)).trans ((HK7.out.alloc _).block b hb hx)⟩
          have hr8 : RS w8 R s (pos s v) d := HR7.out.keep (hgr.block R HR7.out.lt (fun e => by have e2 : R = g := Option.some.inj e; omega))
          have hz8 := HZ7.out.keep (hgr.block w.heap.size HZ7.out.lt (fun e => by have e2 : w.heap.size = g := Option.some.inj e; omega))
          exact ⟨⟨g', n + 1, c', _, v, m, rfl, hvn, by omega, hfu2, hfv, hr8, hk8, HER.out _ hk8, hz8, HS8, by rw [show Fo.cons k l kids mn mx .nil = p from HP.out]; exact hre⟩, by
            have e1 := HR5.out.rdAt
            have e2 := hr8.rdAt
            rw [e1, e2]
            simp only [List.length_cons]
            omega⟩
set_option maxRecDepth 100000 in
set_option maxHeartbeats 16000000 in
theorem row_alt (R : Nat) (s : ByteArray) (d : Int) (one : Rd) (B : Nat) (hm : s.size ≤ 1000000) (X : List Nat) (t : List UInt8) (w : World) (hX : R ∈ X) (hXs : ∀ x ∈ X, x < w.heap.size) (ht : Sf s t) (h : RS w R s (pos s t) d) (hE : Er w R)
    (HONE0 : ∀ (X : List Nat) (t : List UInt8) (w1 : World), R ∈ X → (∀ x ∈ X, x < w1.heap.size) → Sf s t → RS w1 R s (pos s t) d → Er w1 R → Kp [R] w w1 → Calls Tryz.prog 108 #[.pointer (some ⟨B, 0, none⟩)] w1 (RdP R X s d (one t) w1))
    (hsuf : ∀ t p u, one t = some (p, u) → ∃ q, t = q ++ u) :
    Calls Tryz.prog 107 #[.pointer (some ⟨R, 0, none⟩), .int .i64 5, .int .u8 124, .func (.func 108) #[] #[.pointer (some ⟨B, 0, none⟩)]] w (RdP R X s d (rowR 5 124 one t) w) := by
  obtain ⟨iP, hi, hz0, hz1, hz2⟩ := iPath
  have HX := Lib.hid hX
  have HXS := Lib.hid hXs
  clear hX hXs
  have hRlt := h.lt
  have hneZ : w.heap.size ∉ [R] := by simp; omega
  have HR1 := Lib.hid (h.al zero5)
  have HK1 := Lib.hid ((Kp.refl [R] w).alloc zero5)
  have HE1 := Lib.hid (hE.keep HK1.out)
  have HER := Lib.hid (fun (w' : World) (hk : Kp [R] w w') => hE.keep hk)
  have HZ1 := Lib.hid (Bx.new w (.int .i64 0) (.string ⟨#[]⟩) (.slice none 0 0) (.int .i64 0) (.int .i64 0) 24)
  have HZL := Lib.hid HZ1.out.lt
  have HONE := Lib.hid HONE0
  have HA := Lib.hid (fun (w1 : World) (h0 : w.heap.size < w1.heap.size) (h1 : RS w1 R s (pos s t) d) (h2 : Er w1 R) (h3 : Kp [R] w w1) => HONE0 (w.heap.size :: X) t w1 (List.mem_cons_of_mem _ HX.out) (fun x hx => by rcases List.mem_cons.1 hx with rfl | hx; exact h0; have := HXS.out x hx; omega) ht h1 h2 h3)
  have HM := Lib.hid hm
  have HSUF := Lib.hid hsuf
  clear h hE HONE0 hsuf
  rcases hx : one t with _ | ⟨p0, u0⟩
  · have e : rowR 5 124 one t = none := by unfold rowR; rw [hx]
    rw [rdp_none e]
    rw [hx] at HA
    have HA2 : Hid (∀ w1 : World, w.heap.size < w1.heap.size → RS w1 R s (pos s t) d → Er w1 R → Kp [R] w w1 → Calls Tryz.prog 108 #[.pointer (some ⟨B, 0, none⟩)] w1 (Left R w1)) := HA.out
    clear hx HA e
    go_enter Tryz.func107, Tryz.ntmps107
    go_wp2_with (first
      | (go_at_call 108; (with_reducible refine (HA2.out _ HZL.out HR1.out HE1.out HK1.out).mono ?_); rintro e w' ⟨b, x, rfl, hl1, hl2, hl3, hl4⟩))
    exact ⟨rfl, Left.after HK1.out ⟨b, x, rfl, hl1, hl2, hl3, hl4⟩⟩
  · obtain ⟨q0, hq0⟩ := HSUF.out t p0 u0 hx
    have hf0 := Lib.hid (ht.suf hq0)
    obtain ⟨RES, hRES⟩ : ∃ RES, rowL one 124 u0.length p0 u0 = RES := ⟨_, rfl⟩
    have HRW := Lib.hid (show rowR 5 124 one t = rowE 5 RES by rw [← hRES]; exact rowR_eq hx)
    have HRES := Lib.hid hRES
    rw [hx] at HA
    have HA2 : Hid (∀ w1 : World, w.heap.size < w1.heap.size → RS w1 R s (pos s t) d → Er w1 R → Kp [R] w w1 → Calls Tryz.prog 108 #[.pointer (some ⟨B, 0, none⟩)] w1 fun e w' => ∃ a : Nd, e = .returned a.v ∧ a.fo .nil = p0 ∧ a.ok w' (w.heap.size :: X) ∧ Kp [R] w1 w' ∧ RS w' R s (pos s u0) d) := HA.out
    have hul : u0.length ≤ s.size := hf0.out.le
    have HQ0 := Lib.hid (Nat.le_refl u0.length)
    clear hx HA hRES hq0
    obtain ⟨SP, hSP⟩ : ∃ SP, rowR 5 124 one t = SP := ⟨_, rfl⟩
    rw [hSP] at HRW ⊢
    clear hSP
    go_enter Tryz.func107, Tryz.ntmps107
    go_wp2_with (first
      | (go_at_call 108; (with_reducible refine (HA2.out _ HZL.out HR1.out HE1.out HK1.out).mono ?_); rintro e w2 ⟨⟨k, l, A, c1, mn, mx, kids⟩, rfl, hp, hok, hk2, hr2⟩; have HP := Lib.hid hp; have hzz : w.heap.size < w2.heap.size := Nat.lt_of_lt_of_le HZL.out hk2.size; have HS2 := Lib.hid (RowS.one w2 (w.heap.size :: X) (w.heap.size + 1) k l A c1 mn mx kids hok hzz); have HK2 := Lib.hid ((HK1.out.trans hk2).alloc (cells5 k l A kids.len c1 mn mx)); have HR2 := Lib.hid (hr2.al (cells5 k l A kids.len c1 mn mx)); have HZ2 := Lib.hid ((HZ1.out.kp hk2 hneZ).al (cells5 k l A kids.len c1 mn mx)); have HE2 := Lib.hid (HER.out _ HK2.out); clear hp hok hk2 hr2))
    go_loopw [9] (fun lv wr => ∃ (g n c : Nat) (f : Fo) (tc : List UInt8) (fuel : Nat), lv = .slice (some ⟨g, 0, none⟩) n c ∧ n + tc.length ≤ s.size + 1 ∧ 1 ≤ n ∧ Hid (tc.length ≤ fuel) ∧ Hid (Sf s tc) ∧ Hid (RS wr R s (pos s tc) d) ∧ Hid (Kp [R] w wr) ∧ Hid (Er wr R) ∧ Hid (Bx wr w.heap.size (.int .i64 0) (.string ⟨#[]⟩) (.slice none 0 0) (.int .i64 0) (.int .i64 0)) ∧ Hid (RowS wr (w.heap.size + 1) (w.heap.size :: X) g n c f) ∧ Hid (rowL one 124 fuel f tc = RES)) (fun _ wr => s.size - rdAt wr R)
    case atStart => exact ⟨w2.heap.size, 1, 1, _, u0, u0.length, rfl, by omega, Nat.le_refl _, HQ0, hf0, HR2, HK2, HE2, HZ2, HS2, by rw [show Fo.cons k l kids mn mx .nil = p0 from HP.out]; exact HRES⟩
    case round =>
      obtain ⟨g, n, c, f, tc, fuel, rfl, hn, hn1, HFU, HF, HR5, HK5, HE5, HZ5, HS5, HRE⟩ := hrel
      clear HR2 HK2 HE2 HZ2 HS2 hf0 HRES HP HR1 HK1 HE1 HZ1 HQ0
      have HI := Lib.hid (fun (w1 : World) (h1 : RS w1 R s (pos s tc) d) => is_rd R s d 124 124 rfl tc w1 h1 HF.out HM.out)
      cases hs : hd 124 tc
      · rw [hs] at HI
        simp only [Bool.false_eq_true, if_false] at HI
        have hre := Lib.hid (show RES = some (f, tc) by
          rw [← HRE.out, rowL_stop _ _ _ _ _ (fun c hc e => hd_false hs (by rw [hc, e]))])
        clear hs
        have hg := HS5.out.g1
        have HXB := Lib.hid (show ∀ x ∈ w.heap.size :: X, x < w.heap.size + 1 from fun x hx => by
          rcases List.mem_cons.1 hx with rfl | hx
          · omega
          · have := HXS.out x hx; omega)
        have hfl := HS5.out.len
        by_cases hn2 : n = 1
        · subst hn2
          obtain ⟨k, l, d0, mn, mx, rfl⟩ := one_len hfl
          have hres := Lib.hid (show SP = some (.cons k l d0 mn mx .nil, tc) by rw [HRW.out, hre.out]; rfl)
          have hat := HS5.out.at HXB.out
          obtain ⟨b', o', K, c', eb, _, hcel, h1, h2, h3, _⟩ := hat
          injection eb with eb
          injection eb with eb1 eb2
          subst eb1 eb2
          have HCL := Lib.hid hcel
          have HAK := Lib.hid (show Nd.ok wr (w.heap.size :: X) ⟨k, l, K, c', mn, mx, d0⟩ from ⟨h1, h2, h3⟩)
          clear hcel h1 h2 h3 hfl
          go_wp2_with (first
            | (go_at_call 117; (with_reducible refine (HI.out _ HR5.out).mono ?_); rintro e w6 ⟨rfl, hk6, hr6⟩; have hk6x := hk6; have HR6 := Lib.hid hr6; have HK6 := Lib.hid (HK5.out.trans hk6); have HE6 := Lib.hid (HE5.out.keep hk6); have HZ6 := Lib.hid (HZ5.out.kp hk6 hneZ); have HS6 := Lib.hid (HS5.out.kp hk6 (by simp [HX.out]; omega)); clear hk6 hr6; have HCL6 := Lib.hid (HCL.out.keep (hk6x.block _ hg.2.1 (by simp; omega))); have HAK6 := Lib.hid (hk6x.nd2 (by simp [HX.out]) HAK.out); have x0 := HCL6.out.1; have x1 := HCL6.out.2.1; have x2 := HCL6.out.2.2.1; have x3 := HCL6.out.2.2.2.1; have x4 := HCL6.out.2.2.2.2; have z0 := HZ6.out.c0; have y0 := HZ6.out.f0; have z1 := HZ6.out.c1; have y1 := HZ6.out.f1; have z2 := HZ6.out.c2; have y2 := HZ6.out.f2; have z3 := HZ6.out.c3; have y3 := HZ6.out.f3; have z4 := HZ6.out.c4; have y4 := HZ6.out.f4))
          exact bodyPost_ret (v := .agg #[.int .i64 k, .string l, .slice K d0.len c', .int .i64 mn, .int .i64 mx]) (by simp [results, Tryz.results107, go_sem, z0, z1, z2, z3, z4]) rfl (by rw [rdp_some hres.out]; exact ⟨⟨k, l, K, c', mn, mx, d0⟩, rfl, rfl, (HAK6.out.w5 (b := w.heap.size) (by simp)).less (by intro y hy; simp [hy]), HK6.out.w5 (Or.inr (Nat.le_refl _)), HR6.out.w5 (by omega)⟩)
        · have hres := Lib.hid (show SP = some (one1 5 [] f 0 0, tc) by rw [HRW.out, hre.out]; unfold rowE; simp only [Option.map_some]; rw [if_neg (by omega)])
          have hflc := Lib.hid hfl
          subst hfl
          have tn : ((f.len : Int) == 1) = false := by rw [beq_eq_false_iff_ne]; omega
          clear hn2
          go_wp2_with (first
            | (go_at_call 117; (with_reducible refine (HI.out _ HR5.out).mono ?_); rintro e w6 ⟨rfl, hk6, hr6⟩; have HR6 := Lib.hid hr6; have HK6 := Lib.hid (HK5.out.trans hk6); have HE6 := Lib.hid (HE5.out.keep hk6); have HZ6 := Lib.hid (HZ5.out.kp hk6 hneZ); have HS6 := Lib.hid (HS5.out.kp hk6 (by simp [HX.out]; omega)); clear hk6 hr6; have z0 := HZ6.out.c0; have y0 := HZ6.out.f0; have z1 := HZ6.out.c1; have y1 := HZ6.out.f1; have z2 := HZ6.out.c2; have y2 := HZ6.out.f2; have z3 := HZ6.out.c3; have y3 := HZ6.out.f3; have z4 := HZ6.out.c4; have y4 := HZ6.out.f4))
          exact bodyPost_ret (v := .agg #[.int .i64 5, .string ⟨#[]⟩, .slice (some ⟨g, 0, none⟩) f.len c, .int .i64 0, .int .i64 0]) (by simp [results, Tryz.results107, go_sem, z0, z1, z2, z3, z4]) rfl (by rw [rdp_some hres.out]; exact ⟨⟨5, ⟨#[]⟩, some ⟨g, 0, none⟩, c, 0, 0, f⟩, rfl, rfl, (Nd.ok.w5 (a := ⟨5, ⟨#[]⟩, some ⟨g, 0, none⟩, c, 0, 0, f⟩) (b := w.heap.size) ⟨hg.2.2.1, hg.2.2.2, HS6.out.at HXB.out⟩ (by simp)).less (by intro y hy; simp [hy]), HK6.out.w5 (Or.inr (Nat.le_refl _)), HR6.out.w5 (by omega)⟩)
      · obtain ⟨uc, rfl⟩ := hd_true hs
        rw [hs] at HI
        simp only [if_true, List.tail_cons] at HI
        have hfu := Lib.hid HF.out.next.1
        obtain ⟨m, rfl⟩ : ∃ m, fuel = m + 1 := ⟨fuel - 1, by have := HFU.out; rw [List.length_cons] at this; omega⟩
        have hg := HS5.out.g1
        have HRL := Lib.hid (HRE.out.symm.trans rowL_next)
        have HA := Lib.hid (fun (w1 : World) (h0 : w.heap.size < w1.heap.size ∧ g < w1.heap.size) (h1 : RS w1 R s (pos s uc) d) (h2 : Er w1 R) (h3 : Kp [R] w w1) => HONE.out (g :: w.heap.size :: X) uc w1 (by simp [HX.out]) (fun x hx => by
          rcases List.mem_cons.1 hx with rfl | hx
          · exact h0.2
          rcases List.mem_cons.1 hx with rfl | hx
          · exact h0.1
          · have := HXS.out x hx; omega) hfu.out h1 h2 h3)
        rcases hx : one uc with _ | ⟨p, v⟩
        · have hre := Lib.hid (show SP = none by rw [HRW.out, HRL.out, hx]; rfl)
          rw [hx] at HA
          have HA3 : Hid (∀ w1 : World, w.heap.size < w1.heap.size ∧ g < w1.heap.size → RS w1 R s (pos s uc) d → Er w1 R → Kp [R] w w1 → Calls Tryz.prog 108 #[.pointer (some ⟨B, 0, none⟩)] w1 (Left R w1)) := HA.out
          clear hs hx HA
          go_wp2_with (first
            | (go_at_call 117; (with_reducible refine (HI.out _ HR5.out).mono ?_); rintro e w6 ⟨rfl, hk6, hr6⟩; have HR6 := Lib.hid hr6; have HK6 := Lib.hid (HK5.out.trans hk6); have HE6 := Lib.hid (HE5.out.keep hk6); have HZ6 := Lib.hid (HZ5.out.kp hk6 hneZ); have HS6 := Lib.hid (HS5.out.kp hk6 (by simp [HX.out]; omega)); clear hk6 hr6)
            | (go_at_call 108; (with_reducible refine (HA3.out _ ⟨HZ6.out.lt, HS6.out.g1.2.1⟩ HR6.out HE6.out HK6.out).mono ?_); rintro e w' ⟨b, x, rfl, hl1, hl2, hl3, hl4⟩))
          exact ⟨rfl, by rw [rdp_none hre.out]; exact Left.after HK6.out ⟨b, x, rfl, hl1, hl2, hl3, hl4⟩⟩
        · have hre := Lib.hid (show rowL one 124 m (f.app p) v = RES by rw [HRL.out, hx])
          obtain ⟨qs, hqs⟩ := HSUF.out uc p v hx
          have hfv := Lib.hid (hfu.out.suf hqs)
          have hvl := congrArg List.length hqs
          rw [List.length_append] at hvl
          rw [List.length_cons] at hn
          have hfu2 := Lib.hid (show v.length ≤ m by have := HFU.out; rw [List.length_cons] at this; omega)
          rw [hx] at HA
          have HA3 : Hid (∀ w1 : World, w.heap.size < w1.heap.size ∧ g < w1.heap.size → RS w1 R s (pos s uc) d → Er w1 R → Kp [R] w w1 → Calls Tryz.prog 108 #[.pointer (some ⟨B, 0, none⟩)] w1 fun e w' => ∃ a : Nd, e = .returned a.v ∧ a.fo .nil = p ∧ a.ok w' (g :: w.heap.size :: X) ∧ Kp [R] w1 w' ∧ RS w' R s (pos s v) d) := HA.out
          have hvn : n + 1 + v.length ≤ s.size + 1 := by omega
          have hvm : v.length ≤ uc.length := by omega
          have hucs := hfu.out.le
          clear hs hx HA hqs
          go_wp2_with (first
            | (go_at_call 117; (with_reducible refine (HI.out _ HR5.out).mono ?_); rintro e w6 ⟨rfl, hk6, hr6⟩; have HR6 := Lib.hid hr6; have HK6 := Lib.hid (HK5.out.trans hk6); have HE6 := Lib.hid (HE5.out.keep hk6); have HZ6 := Lib.hid (HZ5.out.kp hk6 hneZ); have HS6 := Lib.hid (HS5.out.kp hk6 (by simp [HX.out]; omega)); clear hk6 hr6)
            | (go_at_call 108; (with_reducible refine (HA3.out _ ⟨HZ6.out.lt, HS6.out.g1.2.1⟩ HR6.out HE6.out HK6.out).mono ?_); rintro e w7 ⟨⟨k, l, A, c1, mn, mx, kids⟩, rfl, hp, hok, hk7, hr7⟩; have HP := Lib.hid hp; have HOK := Lib.hid hok; have HK7 := Lib.hid (HK6.out.trans hk7); have HR7 := Lib.hid (hr7.al (cells5 k l A kids.len c1 mn mx)); have HS7 := Lib.hid (HS6.out.kp hk7 (by simp [HX.out]; omega)); have HZ7 := Lib.hid ((HZ6.out.kp hk7 hneZ).al (cells5 k l A kids.len c1 mn mx)); have HW7 := Lib.hid (show w.heap.size < w7.heap.size from Nat.lt_of_lt_of_le HZ6.out.lt hk7.size); clear hp hok hk7 hr7; obtain ⟨cs, hown, hcs⟩ := HS7.out.own; have HCS := Lib.hid hcs; have HOWN := Lib.hid (hown.alloc (cells5 k l A kids.len c1 mn mx)); clear hown hcs)
            | (refine wpList_append_own_at _ rfl (.tmp 16) (.tmp 19) 22 rfl (w.heap.size + 1) 24 iP _ 5 64 Tryz.underlying22 hi hz0 hz1 hz2 rfl (by decide) (.slice (some ⟨g, 0, none⟩) n c) n cs rfl HOWN.out ⟨w7.heap.size, 0, none⟩ 1 1 [.int .i64 k, .string l, .slice A kids.len c1, .int .i64 mn, .int .i64 mx] rfl rfl (lit5 w7 _ _ _ _ _ _) (cells1 _ _ _ _ _ _ _) (by unfold maxLen; omega) (by omega) (by have := HW7.out; simp; omega) ?_; intro v' w8 hown8 hgrow _ hat8; have HG8 := Lib.hid hgrow; obtain ⟨g', c', rfl, hrs⟩ := HS7.out.push k l A c1 mn mx kids HOK.out HCS.out hown8 hgrow hat8; have HS8 := Lib.hid hrs; clear hrs hown8 hgrow hat8))
          have hgn := HS7.out.g1
          have hgr := HG8.out
          have hk8 : Kp [R] w w8 := ⟨hgr.os.trans (HK7.out.alloc _).os, hgr.tape.trans (HK7.out.alloc _).tape, hgr.output.trans (HK7.out.alloc _).output, Nat.le_trans (HK7.out.alloc _).size hgr.size, fun b hb hx => (hgr.block b (Nat.lt_of_lt_of_le hb (HK7.out.alloc _).size) (fun e => by have e2 : b = g := Option.some.inj e; omega)).trans ((HK7.out.alloc _).block b hb hx)⟩
          have hr8 : RS w8 R s (pos s v) d := HR7.out.keep (hgr.block R HR7.out.lt (fun e => by have e2 : R = g := Option.some.inj e; omega))
          have hz8 := HZ7.out.keep (hgr.block w.heap.size HZ7.out.lt (fun e => by have e2 : w.heap.size = g := Option.some.inj e; omega))
          exact ⟨⟨g', n + 1, c', _, v, m, rfl, hvn, by omega, hfu2, hfv, hr8, hk8, HER.out _ hk8, hz8, HS8, by rw [show Fo.cons k l kids mn mx .nil = p from HP.out]; exact hre⟩, by
            have e1 := HR5.out.rdAt
            have e2 := hr8.rdAt
            rw [e1, e2]
            simp only [List.length_cons]
            omega⟩
end Go.Proofs.YtpaehicfndkliaaGreatDoor.Pa


/- What the reader computes (plain): what is left is an end of the text; the numbers are the machine's. No condition. -/
namespace Go.Proofs.YtpaehicfndkliaaGreatDoor.Pa
open Go.RowKit Go.Lib Na Go.PN

def Suf (f : Rd) : Prop := ∀ t p u, f t = some (p, u) → ∃ q, t = q ++ u
def BdR (f : Rd) : Prop := ∀ t p u, f t = some (p, u) → Bd p
theorem nameM {k : Int} {t : List UInt8} {p : Fo} {u : List UInt8} (h : (nameR t).map (fun x => (one1 k x.1 .nil 0 0, x.2)) = some (p, u)) : ∃ l, nameR t = some (l, u) ∧ p = one1 k l .nil 0 0 := by
  cases hn : nameR t with
  | none => rw [hn] at h; cases h
  | some r =>
    rw [hn] at h
    simp only [Option.map_some, Option.some.injEq, Prod.mk.injEq] at h
    exact ⟨r.1, by rw [← h.2], h.1.symm⟩
theorem Bd.one {k : Int} {l : List UInt8} {f : Fo} (h : Bd f) : Bd (one1 k l f 0 0) := ⟨by omega, by omega, h, trivial⟩
theorem Bd.mk {f g : Fo} (h : Bd f) (h2 : Bd g) : Bd (f.app g) := by
  induction f with
  | nil => exact h2
  | cons k l d mn mx r _ ih => exact ⟨h.1, h.2.1, h.2.2.1, ih h.2.2.2⟩
theorem Suf.atom {alt : Rd} (h : Suf alt) : Suf (atomR alt) := by
  intro t p u e
  cases t with
  | nil => cases e
  | cons c t =>
    unfold atomR at e
    simp only at e
    split at e
    · obtain ⟨l, h1, _⟩ := nameM e
      obtain ⟨q, hq, _⟩ := nameR_suf t _ h1
      exact ⟨c :: q, by rw [hq]; rfl⟩
    · split at e
      · split at e
        · rename_i h41
          cases t with
          | nil => cases h41
          | cons b t =>
            injection e with e
            injection e with _ e
            simp only [List.tail_cons] at e
            exact ⟨[c, b], by rw [← e]; rfl⟩
        · cases ha : alt t with
          | none => rw [ha] at e; cases e
          | some r =>
            obtain ⟨p1, v⟩ := r
            obtain ⟨q, hq⟩ := h t p1 v ha
            rw [ha] at e
            simp only at e
            split at e
            · cases v with
              | nil => rename_i h41; cases h41
              | cons b v =>
                injection e with e
                injection e with _ e
                simp only [List.tail_cons] at e
                exact ⟨c :: q ++ [b], by rw [hq, ← e]; simp⟩
            · cases e
      · obtain ⟨l, h1, _⟩ := nameM e
        obtain ⟨q, hq, _⟩ := nameR_suf (c :: t) _ h1
        exact ⟨q, hq⟩
theorem BdR.atom {alt : Rd} (h : BdR alt) : BdR (atomR alt) := by
  intro t p u e
  cases t with
  | nil => cases e
  | cons c t =>
    unfold atomR at e
    simp only at e
    split at e
    · obtain ⟨l, _, rfl⟩ := nameM e
      exact Bd.one trivial
    · split at e
      · split at e
        · injection e with e
          injection e with e _
          rw [← e]
          exact Bd.one trivial
        · cases ha : alt t with
          | none => rw [ha] at e; cases e
          | some r =>
            obtain ⟨p1, v⟩ := r
            have hb := h t p1 v ha
            rw [ha] at e
            simp only at e
            split at e
            · injection e with e
              injection e with e _
              rw [← e]; exact hb
            · cases e
      · obtain ⟨l, _, rfl⟩ := nameM e
        exact Bd.one trivial
theorem repR_bd {p q : Fo} {t v : List UInt8} (h : repR NP p t = some (q, v)) (hb : Bd p) : Bd q := by
  unfold repR at h
  have e1 : NP.mn t = some (numR t) := rfl
  rw [e1] at h
  have r1 : -9223372036854775808 ≤ (numR t).1 ∧ (numR t).1 ≤ 9223372036854775807 := numV_rng _
  obtain ⟨m, u, hn⟩ : ∃ m u, numR t = (m, u) := ⟨_, _, rfl⟩
  rw [hn] at h r1
  simp only at h
  split at h
  · have r2 : -9223372036854775808 ≤ (numR u.tail).1 ∧ (numR u.tail).1 ≤ 9223372036854775807 := numV_rng _
    have e2 : NP.mx u.tail = some (numR u.tail) := rfl
    rw [e2] at h
    obtain ⟨x, u3, hn2⟩ : ∃ m u3, numR u.tail = (m, u3) := ⟨_, _, rfl⟩
    rw [hn2] at h r2
    simp only at h
    split at h
    · injection h with h
      injection h with h _
      rw [← h]
      exact ⟨r1, r2, hb, trivial⟩
    · cases h
  · cases h
theorem postL_both (n : Nat) : ∀ (p : Fo) (t : List UInt8) (q : Fo) (u : List UInt8), postL NP n p t = some (q, u) → (∃ r, t = r ++ u) ∧ (Bd p → Bd q) := by
  induction n with
  | zero => intro p t q u h; injection h with h; injection h with h1 h2; exact ⟨⟨[], h2⟩, fun h => h1 ▸ h⟩
  | succ n ih =>
    intro p t q u h
    cases t with
    | nil => injection h with h; injection h with h1 h2; exact ⟨⟨[], h2⟩, fun h => h1 ▸ h⟩
    | cons c t =>
      have step : ∀ k, postL NP n (one1 k [] p 0 0) t = some (q, u) → (∃ r, c :: t = r ++ u) ∧ (Bd p → Bd q) := by
        intro k h
        obtain ⟨⟨r, hr⟩, hb⟩ := ih _ _ _ _ h
        exact ⟨⟨c :: r, by rw [hr]; rfl⟩, fun h => hb (Bd.one h)⟩
      rw [postL] at h
      split at h
      · exact step 6 h
      · split at h
        · exact step 7 h
        · split at h
          · exact step 8 h
          · split at h
            · cases hr : repR NP p t with
              | none => rw [hr] at h; cases h
              | some x =>
                obtain ⟨q1, v⟩ := x
                rw [hr] at h
                obtain ⟨⟨r, hr2⟩, hb⟩ := ih _ _ _ _ h
                obtain ⟨r3, hr3⟩ := repR_suf hr
                exact ⟨⟨c :: (r3 ++ r), by rw [hr3, hr2]; simp⟩, fun h => hb (repR_bd hr h)⟩
            · injection h with h; injection h with h1 h2; exact ⟨⟨[], h2⟩, fun h => h1 ▸ h⟩
theorem Suf.post {at_ : Rd} (h : Suf at_) : Suf (postR NP at_) := by
  intro t p u e
  unfold postR at e
  cases ha : at_ t with
  | none => rw [ha] at e; cases e
  | some r =>
    obtain ⟨p1, v⟩ := r
    obtain ⟨q, hq⟩ := h t p1 v ha
    rw [ha] at e
    obtain ⟨⟨r, hr⟩, _⟩ := postL_both _ _ _ _ _ e
    exact ⟨q ++ r, by rw [hq, hr]; simp⟩
theorem BdR.post {at_ : Rd} (h : BdR at_) : BdR (postR NP at_) := by
  intro t p u e
  unfold postR at e
  cases ha : at_ t with
  | none => rw [ha] at e; cases e
  | some r =>
    obtain ⟨p1, v⟩ := r
    have hb := h t p1 v ha
    rw [ha] at e
    exact (postL_both _ _ _ _ _ e).2 hb
theorem rowL_both {one : Rd} {sep : UInt8} (h : Suf one) (hb : BdR one) (n : Nat) : ∀ (f : Fo) (t : List UInt8) (q : Fo) (u : List UInt8), rowL one sep n f t = some (q, u) → (∃ r, t = r ++ u) ∧ (Bd f → Bd q) := by
  induction n with
  | zero => intro p t q u h; injection h with h; injection h with h1 h2; exact ⟨⟨[], h2⟩, fun h => h1 ▸ h⟩
  | succ n ih =>
    intro p t q u e
    cases t with
    | nil => injection e with h; injection h with h1 h2; exact ⟨⟨[], h2⟩, fun h => h1 ▸ h⟩
    | cons c t =>
      rw [rowL] at e
      split at e
      · cases ho : one t with
        | none => rw [ho] at e; cases e
        | some x =>
          obtain ⟨q1, v⟩ := x
          rw [ho] at e
          obtain ⟨⟨r, hr2⟩, hb2⟩ := ih _ _ _ _ e
          obtain ⟨r3, hr3⟩ := h _ _ _ ho
          exact ⟨⟨c :: (r3 ++ r), by rw [hr3, hr2]; simp⟩, fun h => hb2 (Bd.mk h (hb _ _ _ ho))⟩
      · injection e with h; injection h with h1 h2; exact ⟨⟨[], h2⟩, fun h => h1 ▸ h⟩
theorem row_both {one : Rd} {sep : UInt8} {k : Int} (h : Suf one) (hb : BdR one) : Suf (rowR k sep one) ∧ BdR (rowR k sep one) := by
  have key : ∀ t p u, rowR k sep one t = some (p, u) → (∃ q, t = q ++ u) ∧ Bd p := by
    intro t p u e
    cases ho : one t with
    | none => unfold rowR at e; rw [ho] at e; cases e
    | some x =>
      obtain ⟨q1, v⟩ := x
      rw [rowR_eq ho] at e
      unfold rowE at e
      cases hr : rowL one sep v.length q1 v with
      | none => rw [hr] at e; cases e
      | some y =>
        obtain ⟨f, u2⟩ := y
        rw [hr] at e
        simp only [Option.map_some, Option.some.injEq, Prod.mk.injEq] at e
        obtain ⟨⟨r, hr2⟩, hb2⟩ := rowL_both h hb _ _ _ _ _ hr
        obtain ⟨r3, hr3⟩ := h _ _ _ ho
        have hbf := hb2 (hb _ _ _ ho)
        refine ⟨⟨r3 ++ r, by rw [hr3, hr2, ← e.2]; simp⟩, ?_⟩
        rw [← e.1]
        split
        · exact hbf
        · exact Bd.one hbf
  exact ⟨fun t p u e => (key t p u e).1, fun t p u e => (key t p u e).2⟩
theorem alt_both (n : Nat) : Suf (altR NP n) ∧ BdR (altR NP n) := by
  induction n with
  | zero => exact ⟨fun t p u e => (by cases e), fun t p u e => (by cases e)⟩
  | succ n ih =>
    have h1 := row_both (k := 4) (sep := 47) ih.1.atom.post ih.2.atom.post
    have h2 := row_both (k := 5) (sep := 124) h1.1 h1.2
    exact h2
end Go.Proofs.YtpaehicfndkliaaGreatDoor.Pa


/- The walk of the reader's 'alt'. Condition: the reader lies in memory. -/
namespace Go.Proofs.YtpaehicfndkliaaGreatDoor.Pa
open Go.RowKit Go.Lib Na Go.PN

set_option maxRecDepth 100000 in
set_option maxHeartbeats 8000000 in
/-- The function value within 'alt'. -/
theorem seq_rd (R B : Nat) (s : ByteArray) (d : Int) (one : Rd) (hm : s.size ≤ 1000000) (HP0 : Rds 109 R s d one) (hsuf : Suf one) (X : List Nat) (t : List UInt8) (w : World) (hX : R ∈ X) (hXs : ∀ x ∈ X, x < w.heap.size) (ht : Sf s t) (h : RS w R s (pos s t) d) (hE : Er w R)
    (hB : w.cell? ⟨B, 0, none⟩ = some (.pointer (some ⟨R, 0, none⟩))) :
    Calls Tryz.prog 108 #[.pointer (some ⟨B, 0, none⟩)] w (RdP R X s d (rowR 4 47 one t) w) := by
  have hmf : ∀ (fn : Fn) (first cap : Array Value) (w : World), (Instr.makeFunc fn first cap).run Tryz.prog w = .ok (.func fn first cap) w := fun _ _ _ _ => rfl
  have HX := Lib.hid hX
  have HXS := Lib.hid hXs
  have hRlt := h.lt
  have hneZ : w.heap.size ∉ [R] := by simp; omega
  have HZ1 := Lib.hid (Bx.new w (.int .i64 0) (.string ⟨#[]⟩) (.slice none 0 0) (.int .i64 0) (.int .i64 0) 24)
  have HK1 := Lib.hid ((Kp.refl [R] w).alloc zero5)
  have HC := Lib.hid (row_seq R s d one hm (w.heap.size :: X) t (w.alloc zero5) (List.mem_cons_of_mem _ hX) (fun x hx => by
    rcases List.mem_cons.1 hx with rfl | hx
    · exact HZ1.out.lt
    · exact Nat.lt_trans (hXs x hx) HZ1.out.lt) ht (h.al zero5) (hE.keep HK1.out) (fun X t w1 a1 a2 a3 a4 a5 _ => HP0 X t w1 a1 a2 a3 a4 a5) hsuf)
  have hBc : (w.alloc zero5).cell? ⟨B, 0, none⟩ = some (.pointer (some ⟨R, 0, none⟩)) := (((Below.refl _ w).alloc (Nat.le_refl _) zero5).cell (p := ⟨B, 0, none⟩) (cell_lt hB)).trans hB
  clear hX hXs h hE
  rcases hx : rowR 4 47 one t with _ | ⟨p, u⟩
  · rw [rdp_none (by rfl)]
    rw [hx] at HC
    have HC2 : Hid (Calls Tryz.prog 107 #[.pointer (some ⟨R, 0, none⟩), .int .i64 4, .int .u8 47, .func (.func 109) #[.pointer (some ⟨R, 0, none⟩)] #[]] (w.alloc zero5) (Left R (w.alloc zero5))) := HC.out
    clear hx HC
    go_enter Tryz.func108, Tryz.ntmps108
    go_wp2_with (go_at_call 107; (with_reducible refine (HC2.out).mono ?_); rintro e w' ⟨b, x, rfl, hl1, hl2, hl3, hl4⟩)
    exact ⟨rfl, Left.after HK1.out ⟨b, x, rfl, hl1, hl2, hl3, hl4⟩⟩
  · rw [rdp_some (by rfl)]
    rw [hx] at HC
    have HC2 : Hid (Calls Tryz.prog 107 #[.pointer (some ⟨R, 0, none⟩), .int .i64 4, .int .u8 47, .func (.func 109) #[.pointer (some ⟨R, 0, none⟩)] #[]] (w.alloc zero5) fun e w' => ∃ a : Nd, e = .returned a.v ∧ a.fo .nil = p ∧ a.ok w' (w.heap.size :: X) ∧ Kp [R] (w.alloc zero5) w' ∧ RS w' R s (pos s u) d) := HC.out
    clear hx HC
    go_enter Tryz.func108, Tryz.ntmps108
    go_wp2_with (go_at_call 107; (with_reducible refine (HC2.out).mono ?_); rintro e w2 ⟨⟨k, l, A, c, mn, mx, kids⟩, rfl, hp, hok, hk2, hr2⟩; have HP := Lib.hid hp; have HOK := Lib.hid hok; have HK2 := Lib.hid (HK1.out.trans hk2); have HR2 := Lib.hid hr2; have HZ2 := Lib.hid (HZ1.out.kp hk2 hneZ); clear hp hok hk2 hr2; have z0 := HZ2.out.c0; have z1 := HZ2.out.c1; have z2 := HZ2.out.c2; have z3 := HZ2.out.c3; have z4 := HZ2.out.c4; have y0 := HZ2.out.f0; have y1 := HZ2.out.f1; have y2 := HZ2.out.f2; have y3 := HZ2.out.f3; have y4 := HZ2.out.f4)
    exact bodyPost_ret (v := .agg #[.int .i64 k, .string l, .slice A kids.len c, .int .i64 mn, .int .i64 mx]) (by simp [results, Tryz.results108, go_sem, z0, z1, z2, z3, z4]) rfl ⟨⟨k, l, A, c, mn, mx, kids⟩, rfl, HP.out, (HOK.out.w5 (b := w.heap.size) (by simp)).less (by intro y hy; simp [hy]), HK2.out.w5 (Or.inr (Nat.le_refl _)), HR2.out.w5 (by omega)⟩
end Go.Proofs.YtpaehicfndkliaaGreatDoor.Pa


/- The walk of the reader's 'alt'. Condition: the reader lies in memory. -/
namespace Go.Proofs.YtpaehicfndkliaaGreatDoor.Pa
open Go.RowKit Go.Lib Na Go.PN

abbrev altW (w : World) (R : Nat) (d : Int) : World := ((w.setCell ⟨R, 2, none⟩ (.int .i64 d)).alloc (.cells #[.pointer (some ⟨R, 0, none⟩)] 84)).alloc zero5
set_option maxRecDepth 100000 in
set_option maxHeartbeats 8000000 in
theorem alt_top (R : Nat) (s : ByteArray) : Rds 88 R s 80 (altR NP 0) := by
  intro X t w hX hXs ht h hE
  have hRlt := h.lt
  have q0 := h.c2
  have q1 := h.f2
  have HR2 := Lib.hid (show RS (altW w R 81) R s (pos s t) 81 from ((h.set2 81).al _).al _)
  have HK2 := Lib.hid (show Kp [R] w (altW w R 81) from (((Kp.refl [R] w).set (p := ⟨R, 2, none⟩) (Or.inl (by simp)) (.int .i64 81)).alloc _).alloc _)
  have q2 := HR2.out.c2
  have HB := Lib.hid (bad_any R s _ 81 _ HR2.out)
  rw [rdp_none (by rfl)]
  clear h hE hX hXs
  go_enter Tryz.func88, Tryz.ntmps88
  go_wp2_with (go_at_call 106; (with_reducible refine (HB.out).mono ?_); rintro e w' ⟨b, x, rfl, hl1, hl2, hl3, hl4⟩)
  exact ⟨rfl, Left.after HK2.out ⟨b, x, rfl, hl1, hl2, hl3, hl4⟩⟩
set_option maxRecDepth 100000 in
set_option maxHeartbeats 8000000 in
theorem alt_step (R : Nat) (s : ByteArray) (d : Int) (n : Nat) (h0 : 0 ≤ d) (h80 : d < 80) (hm : s.size ≤ 1000000) (IH : Rds 88 R s (d + 1) (altR NP n)) : Rds 88 R s d (altR NP (n + 1)) := by
  have hmf : ∀ (fn : Fn) (first cap : Array Value) (w : World), (Instr.makeFunc fn first cap).run Tryz.prog w = .ok (.func fn first cap) w := fun _ _ _ _ => rfl
  intro X t w hX hXs ht h hE
  have hRlt := h.lt
  have HX := Lib.hid hX
  have HXS := Lib.hid hXs
  have HR2 := Lib.hid (show RS (altW w R (d + 1)) R s (pos s t) (d + 1) from ((h.set2 (d + 1)).al _).al _)
  have hk2 : Kp [R] w (altW w R (d + 1)) := (((Kp.refl [R] w).set (p := ⟨R, 2, none⟩) (Or.inl (by simp)) (.int .i64 (d + 1))).alloc _).alloc _
  have HK2 := Lib.hid hk2
  have HE2 := Lib.hid (hE.keep hk2)
  have q2 := HR2.out.c2
  have q0 := h.c2
  have q1 := h.f2
  have hneB : w.heap.size ∉ [R] := by simp; omega
  have hneZ : w.heap.size + 1 ∉ [R] := by simp; omega
  have hz0 : ((w.setCell ⟨R, 2, none⟩ (.int .i64 (d + 1))).alloc (.cells #[.pointer (some ⟨R, 0, none⟩)] 84)).heap.size = w.heap.size + 1 := by simp
  have HZ2 := Lib.hid (show Bx (altW w R (d + 1)) (w.heap.size + 1) (.int .i64 0) (.string ⟨#[]⟩) (.slice none 0 0) (.int .i64 0) (.int .i64 0) from by
    have := Bx.new ((w.setCell ⟨R, 2, none⟩ (.int .i64 (d + 1))).alloc (.cells #[.pointer (some ⟨R, 0, none⟩)] 84)) (.int .i64 0) (.string ⟨#[]⟩) (.slice none 0 0) (.int .i64 0) (.int .i64 0) 24
    rwa [hz0] at this)
  have hb2 : (altW w R (d + 1)).cell? ⟨w.heap.size, 0, none⟩ = some (.pointer (some ⟨R, 0, none⟩)) := by
    have hh : R ≠ w.heap.size := by omega
    go_simp
  have HBP := Lib.hid hb2
  have hbl := cell_lt hb2
  have HC := Lib.hid (row_alt R s (d + 1) (rowR 4 47 (postR NP (atomR (altR NP n)))) w.heap.size hm ((w.heap.size + 1) :: X) t (altW w R (d + 1)) (List.mem_cons_of_mem _ hX) (fun x hx => by
    rcases List.mem_cons.1 hx with rfl | hx
    · exact HZ2.out.lt
    · exact Nat.lt_of_lt_of_le (hXs x hx) hk2.size) ht HR2.out HE2.out
    (fun X t w1 a1 a2 a3 a4 a5 a6 => seq_rd R w.heap.size s (d + 1) (postR NP (atomR (altR NP n))) hm (post_rd R s (d + 1) (atomR (altR NP n)) hm (atom_rd R s (d + 1) (altR NP n) hm IH (alt_both n).1) (alt_both n).1.atom) (alt_both n).1.atom.post X t w1 a1 a2 a3 a4 a5
      ((a6.cell (p := ⟨w.heap.size, 0, none⟩) hbl hneB).trans HBP.out)) (row_both (alt_both n).1.atom.post (alt_both n).2.atom.post).1)
  have t80 : decide (d + 1 > 80) = false := decide_eq_false (by omega)
  clear h hE hX hXs hk2 hz0
  rcases hx : altR NP (n + 1) t with _ | ⟨p, u⟩
  · rw [rdp_none (by rfl)]
    rw [show rowR 5 124 (rowR 4 47 (postR NP (atomR (altR NP n)))) t = none from hx] at HC
    have HC2 : Hid (Calls Tryz.prog 107 #[.pointer (some ⟨R, 0, none⟩), .int .i64 5, .int .u8 124, .func (.func 108) #[] #[.pointer (some ⟨w.heap.size, 0, none⟩)]] (altW w R (d + 1)) (Left R (altW w R (d + 1)))) := HC.out
    clear hx HC
    go_enter Tryz.func88, Tryz.ntmps88
    go_wp2_with (go_at_call 107; (with_reducible refine (HC2.out).mono ?_); rintro e w' ⟨b, x, rfl, hl1, hl2, hl3, hl4⟩)
    exact ⟨rfl, Left.after HK2.out ⟨b, x, rfl, hl1, hl2, hl3, hl4⟩⟩
  · rw [rdp_some (by rfl)]
    rw [show rowR 5 124 (rowR 4 47 (postR NP (atomR (altR NP n)))) t = some (p, u) from hx] at HC
    have HC2 : Hid (Calls Tryz.prog 107 #[.pointer (some ⟨R, 0, none⟩), .int .i64 5, .int .u8 124, .func (.func 108) #[] #[.pointer (some ⟨w.heap.size, 0, none⟩)]] (altW w R (d + 1)) fun e w' => ∃ a : Nd, e = .returned a.v ∧ a.fo .nil = p ∧ a.ok w' ((w.heap.size + 1) :: X) ∧ Kp [R] (altW w R (d + 1)) w' ∧ RS w' R s (pos s u) (d + 1)) := HC.out
    clear hx HC
    go_enter Tryz.func88, Tryz.ntmps88
    go_wp2_with (go_at_call 107; (with_reducible refine (HC2.out).mono ?_); rintro e w3 ⟨⟨k, l, A, c, mn, mx, kids⟩, rfl, hp, hok, hk3, hr3⟩; clear q0 q1 q2; have HP := Lib.hid hp; have hw3 : R < w3.heap.size := hr3.lt; have hwz : w.heap.size + 1 < w3.heap.size := Nat.lt_of_lt_of_le HZ2.out.lt hk3.size; have HOK := Lib.hid (((hok.set (p := ⟨R, 2, none⟩) (List.mem_cons_of_mem _ HX.out) (.int .i64 d)).w5 (b := w.heap.size + 1) (v0 := .int .i64 k) (v1 := .string l) (v2 := .slice A kids.len c) (v3 := .int .i64 mn) (v4 := .int .i64 mx) (by simp)).al (cells5 k l A kids.len c mn mx)); have HK3 := Lib.hid ((((HK2.out.trans hk3).set (p := ⟨R, 2, none⟩) (Or.inl (by simp)) (.int .i64 d)).w5 (b := w.heap.size + 1) (v0 := .int .i64 k) (v1 := .string l) (v2 := .slice A kids.len c) (v3 := .int .i64 mn) (v4 := .int .i64 mx) (Or.inr (by omega))).alloc (cells5 k l A kids.len c mn mx)); have HR3 := Lib.hid (((hr3.set2 d).w5 (b := w.heap.size + 1) (v0 := .int .i64 k) (v1 := .string l) (v2 := .slice A kids.len c) (v3 := .int .i64 mn) (v4 := .int .i64 mx) (by omega)).al (cells5 k l A kids.len c mn mx)); have q3 := hr3.c2; have q4 := hr3.f2; have q5 := (hr3.al (cells5 k l A kids.len c mn mx)).c2; have q6 := (hr3.al (cells5 k l A kids.len c mn mx)).f2; have HZ3 := Lib.hid (((HZ2.out.kp hk3 hneZ).far (p := ⟨R, 2, none⟩) (by show R ≠ _; omega) (.int .i64 d)).al (cells5 k l A kids.len c mn mx)); have hb3 := (hk3.cell (p := ⟨w.heap.size, 0, none⟩) hbl hneB).trans HBP.out; have hb4 := (((Below.refl _ w3).alloc (Nat.le_refl _) (cells5 k l A kids.len c mn mx)).cell (p := ⟨w.heap.size, 0, none⟩) (show w.heap.size < w3.heap.size from by omega)).trans hb3; have HZw := HZ2.out.kp hk3 hneZ; have u0 := HZw.c0; have v0 := HZw.f0; have u1 := HZw.c1; have v1 := HZw.f1; have u2 := HZw.c2; have v2 := HZw.f2; have u3 := HZw.c3; have v3 := HZw.f3; have u4 := HZw.c4; have v4 := HZw.f4; have m0 := (HZw.al (cells5 k l A kids.len c mn mx)).c0; have n0 := (HZw.al (cells5 k l A kids.len c mn mx)).f0; have m1 := (HZw.al (cells5 k l A kids.len c mn mx)).c1; have n1 := (HZw.al (cells5 k l A kids.len c mn mx)).f1; have m2 := (HZw.al (cells5 k l A kids.len c mn mx)).c2; have n2 := (HZw.al (cells5 k l A kids.len c mn mx)).f2; have m3 := (HZw.al (cells5 k l A kids.len c mn mx)).c3; have n3 := (HZw.al (cells5 k l A kids.len c mn mx)).f3; have m4 := (HZw.al (cells5 k l A kids.len c mn mx)).c4; have n4 := (HZw.al (cells5 k l A kids.len c mn mx)).f4; have HZF := Lib.hid (((HZw.far (p := ⟨R, 2, none⟩) (by show R ≠ _; omega) (.int .i64 d)).w5 (v0 := .int .i64 k) (v1 := .string l) (v2 := .slice A kids.len c) (v3 := .int .i64 mn) (v4 := .int .i64 mx)).al (cells5 k l A kids.len c mn mx)); clear hp hok hk3 hr3 HZw; have hrz : R ≠ w.heap.size + 1 := (by omega); have z0 := HZ3.out.c0; have z1 := HZ3.out.c1; have z2 := HZ3.out.c2; have z3 := HZ3.out.c3; have z4 := HZ3.out.c4; have y0 := HZ3.out.f0; have y1 := HZ3.out.f1; have y2 := HZ3.out.f2; have y3 := HZ3.out.f3; have y4 := HZ3.out.f4)
    exact bodyPost_ret (v := .agg #[.int .i64 k, .string l, .slice A kids.len c, .int .i64 mn, .int .i64 mx]) (by simp [results, Tryz.results88, go_sem, HZF.out.c0, HZF.out.c1, HZF.out.c2, HZF.out.c3, HZF.out.c4]) rfl ⟨⟨k, l, A, c, mn, mx, kids⟩, rfl, HP.out, HOK.out.less (by intro y hy; simp [hy]), HK3.out, HR3.out⟩
/-- The reader of paths, from outside. -/
theorem alt_rd (R : Nat) (s : ByteArray) (hm : s.size ≤ 1000000) (n : Nat) (h : n ≤ 80) : Rds 88 R s (80 - n) (altR NP n) := by
  induction n with
  | zero => exact alt_top R s
  | succ n ih =>
    have h1 := alt_step R s (80 - (n + 1 : Nat)) n (by omega) (by omega) hm (by
      have h2 := ih (by omega)
      rwa [show (80 : Int) - (n : Int) = 80 - ((n + 1 : Nat) : Int) + 1 from by omega] at h2)
    exact h1
end Go.Proofs.YtpaehicfndkliaaGreatDoor.Pa
