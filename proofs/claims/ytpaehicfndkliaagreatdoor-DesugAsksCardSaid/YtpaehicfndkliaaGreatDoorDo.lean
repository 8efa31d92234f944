import Derived.Test.YtpaehicfndkliaaGreatDoorDh
import Derived.RegionTactic
import Derived.BigRegion
import Derived.Deep.RegionLaw
import Derived.Test.YtpaehicfndkliaaGreatDoorDl

/- The walk of 'Reverse', at rows of paths. Condition: the row lies in memory and may be written. -/
namespace Go.Proofs.YtpaehicfndkliaaGreatDoor.De
open Go.RowKit Go.Lib Na Go.PN Pa

def revF : Fo → Fo
  | .nil => .nil
  | .cons k l d mn mx r => (revF r).app (.cons k l d mn mx .nil)
theorem revF_len (f : Fo) : (revF f).len = f.len := by
  induction f with
  | nil => rfl
  | cons k l d mn mx r _ ih => rw [revF, Fo.app_len, ih]; rfl
theorem revF_app (f g : Fo) : revF (f.app g) = (revF g).app (revF f) := by
  induction f with
  | nil => rw [Fo.app, revF, Fo.app_nil]
  | cons k l d mn mx r _ ih => rw [Fo.app, revF, ih, revF, Fo.app_assoc]
theorem revF_rev (f : Fo) : revF (revF f) = f := by
  induction f with
  | nil => rfl
  | cons k l d mn mx r _ ih => rw [revF, revF_app, ih]; rfl
theorem revF_short {f : Fo} (h : f.len ≤ 1) : revF f = f := by
  cases f with
  | nil => rfl
  | cons k l d mn mx r =>
    have : r = .nil := nil_of (by simp only [Fo.len] at h; omega)
    subst this
    rfl
/-- Two paths of a row change places. -/
theorem RowAt.swap {w : World} {X : List Nat} {g p m : Nat} {P M S : Fo} {k1 k2 : Int} {l1 l2 : ByteArray} {d1 d2 : Fo} {mn1 mx1 mn2 mx2 : Int}
    (h : RowAt w X g 0 (P.app (.cons k1 l1 d1 mn1 mx1 (M.app (.cons k2 l2 d2 mn2 mx2 S))))) (hp : P.len = p) (hm : p + 1 + M.len = m) (hf : ∀ j, w.frozen? ⟨g, j, none⟩ = false) :
    ∃ K1 c1 K2 c2, Cel w g (p * 5) k1 l1 K1 d1.len c1 mn1 mx1 ∧ Cel w g (m * 5) k2 l2 K2 d2.len c2 mn2 mx2 ∧
      RowAt (puto (puto w g (p * 5) (.int .i64 k2) (.string l2) (.slice K2 d2.len c2) (.int .i64 mn2) (.int .i64 mx2)) g (m * 5) (.int .i64 k1) (.string l1) (.slice K1 d1.len c1) (.int .i64 mn1) (.int .i64 mx1)) X g 0 (P.app (.cons k2 l2 d2 mn2 mx2 (M.app (.cons k1 l1 d1 mn1 mx1 S)))) := by
  rw [RowAt.app, Nat.zero_add, hp] at h
  obtain ⟨h1, K1, c1, hc1, h2, h3, h4, h5⟩ := h
  rw [RowAt.app, show p * 5 + 5 + M.len * 5 = m * 5 from by omega] at h5
  obtain ⟨h6, K2, c2, hc2, h7, h8, h9, h10⟩ := h5
  refine ⟨K1, c1, K2, c2, hc1, hc2, ?_⟩
  obtain ⟨W1, hW1⟩ : ∃ W1, puto w g (p * 5) (.int .i64 k2) (.string l2) (.slice K2 d2.len c2) (.int .i64 mn2) (.int .i64 mx2) = W1 := ⟨_, rfl⟩
  have hk1 : ∀ b, b ≠ g → W1.heap[b]? = w.heap[b]? := fun b hb => by rw [← hW1]; exact puto_heap b hb
  have hcell1 : ∀ j, j < p * 5 ∨ p * 5 + 5 ≤ j → W1.cell? ⟨g, j, none⟩ = w.cell? ⟨g, j, none⟩ := fun j hj => by rw [← hW1]; exact puto_cell j hj
  have hf1 : ∀ j, W1.frozen? ⟨g, j, none⟩ = false := by rw [← hW1]; exact puto_frozen hf
  have hcel1 : Cel W1 g (p * 5) k2 l2 K2 d2.len c2 mn2 mx2 := by rw [← hW1]; exact puto_cel hc1.1 hc1.2.1 hc1.2.2.1 hc1.2.2.2.1 hc1.2.2.2.2 hf
  rw [hW1]
  obtain ⟨a0, a1, a2, a3, a4⟩ := hc2
  have hcel2 : Cel (puto W1 g (m * 5) (.int .i64 k1) (.string l1) (.slice K1 d1.len c1) (.int .i64 mn1) (.int .i64 mx1)) g (m * 5) k1 l1 K1 d1.len c1 mn1 mx1 :=
    puto_cel ((hcell1 _ (by omega)).trans a0) ((hcell1 _ (by omega)).trans a1) ((hcell1 _ (by omega)).trans a2) ((hcell1 _ (by omega)).trans a3) ((hcell1 _ (by omega)).trans a4) hf1
  obtain ⟨W2, hW2⟩ : ∃ W2, puto W1 g (m * 5) (.int .i64 k1) (.string l1) (.slice K1 d1.len c1) (.int .i64 mn1) (.int .i64 mx1) = W2 := ⟨_, rfl⟩
  have hk2 : ∀ b, b < w.heap.size → b ∉ g :: X → W2.heap[b]? = w.heap[b]? := fun b _ hb => by
    have hne : b ≠ g := fun e => hb (by simp [e])
    rw [← hW2]; exact (puto_heap b hne).trans (hk1 b hne)
  have hcell2 : ∀ j, (j < m * 5 ∨ m * 5 + 5 ≤ j) → (j < p * 5 ∨ p * 5 + 5 ≤ j) → W2.cell? ⟨g, j, none⟩ = w.cell? ⟨g, j, none⟩ := fun j h1 h2 => by rw [← hW2]; exact (puto_cell j h1).trans (hcell1 j h2)
  have hcel3 : Cel W2 g (p * 5) k2 l2 K2 d2.len c2 mn2 mx2 := by
    obtain ⟨b0, b1, b2, b3, b4⟩ := hcel1
    rw [← hW2]
    exact ⟨(puto_cell _ (by omega)).trans b0, (puto_cell _ (by omega)).trans b1, (puto_cell _ (by omega)).trans b2, (puto_cell _ (by omega)).trans b3, (puto_cell _ (by omega)).trans b4⟩
  rw [hW2] at hcel2 ⊢
  rw [RowAt.app, Nat.zero_add, hp]
  refine ⟨h1.keep (fun j _ hj => hcell2 j (by omega) (by omega)) hk2, K2, c2, hcel3, h7, h8, h9.keep hk2, ?_⟩
  rw [RowAt.app, show p * 5 + 5 + M.len * 5 = m * 5 from by omega]
  exact ⟨h6.keep (fun j hj1 hj2 => hcell2 j (by omega) (by omega)) hk2, K1, c1, hcel2, h2, h3, h4.keep hk2, h10.keep (fun j hj _ => hcell2 j (by omega) (by omega)) hk2⟩
theorem row_drew {w : World} {X : List Nat} {g o : Nat} {f : Fo} (h : RowAt w X g o f) : RowAt w.drew X g o f := h.keep (fun _ _ _ => rfl) (fun _ _ _ => rfl)
theorem swap_facts {w wr : World} {B g o1 o2 : Nat} {u0 u1 u2 u3 u4 v0 v1 v2 v3 v4 : Value} (hz : ∀ j, wr.frozen? ⟨g, j, none⟩ = false) (hb : Below B w wr) (hB : B ≤ g) (hk : ∀ b, b ≠ g → wr.heap[b]? = w.heap[b]?) :
    Hid (∀ j, (puto (puto wr g o1 u0 u1 u2 u3 u4) g o2 v0 v1 v2 v3 v4).drew.frozen? ⟨g, j, none⟩ = false) ∧ Hid (Below B w (puto (puto wr g o1 u0 u1 u2 u3 u4) g o2 v0 v1 v2 v3 v4).drew) ∧ Hid (∀ b, b ≠ g → (puto (puto wr g o1 u0 u1 u2 u3 u4) g o2 v0 v1 v2 v3 v4).drew.heap[b]? = w.heap[b]?) := by
  have h1 := puto_frozen (o := o1) (v0 := u0) (v1 := u1) (v2 := u2) (v3 := u3) (v4 := u4) hz
  have h2 := puto_below (o := o1) (v0 := u0) (v1 := u1) (v2 := u2) (v3 := u3) (v4 := u4) hb hB
  have h3 : ∀ b, b ≠ g → (puto wr g o1 u0 u1 u2 u3 u4).heap[b]? = w.heap[b]? := fun b hn => (puto_heap b hn).trans (hk b hn)
  generalize puto wr g o1 u0 u1 u2 u3 u4 = W1 at *
  have h4 := puto_frozen (o := o2) (v0 := v0) (v1 := v1) (v2 := v2) (v3 := v3) (v4 := v4) h1
  have h5 := puto_below (o := o2) (v0 := v0) (v1 := v1) (v2 := v2) (v3 := v3) (v4 := v4) h2 hB
  have h6 : ∀ b, b ≠ g → (puto W1 g o2 v0 v1 v2 v3 v4).heap[b]? = w.heap[b]? := fun b hn => (puto_heap b hn).trans (h3 b hn)
  generalize puto W1 g o2 v0 v1 v2 v3 v4 = W2 at *
  exact ⟨Lib.hid h4, Lib.hid h5.drew, Lib.hid h6⟩
set_option maxRecDepth 100000 in
set_option maxHeartbeats 16000000 in
theorem reverse_any (g c B : Nat) (f : Fo) (X : List Nat) (w : World) (hf : RowAt w X g 0 f) (hfz : ∀ j, w.frozen? ⟨g, j, none⟩ = false) (hc : f.len ≤ c) (hc2 : c ≤ 9223372036854775807) (hg : g < w.heap.size) (hB : B ≤ g) :
    Calls Tryz.prog 72 #[.slice (some ⟨g, 0, none⟩) f.len c] w fun e w' => e = .returned (.tuple #[]) ∧ RowAt w' X g 0 (revF f) ∧ (∀ j, w'.frozen? ⟨g, j, none⟩ = false) ∧ Below B w w' ∧ (∀ b, b ≠ g → w'.heap[b]? = w.heap[b]?) := by
  have hfl : f.len ≤ 9223372036854775807 := by omega
  have HF := Lib.hid hf
  have HFZ := Lib.hid hfz
  obtain ⟨n, hn⟩ : ∃ n, f.len = n := ⟨_, rfl⟩
  have HN := Lib.hid hn
  rw [hn] at hc hfl ⊢
  clear hf hfz hn
  go_enter Tryz.func72, Tryz.ntmps72
  go_wp2_with fail
  go_loopw [2, 3] (fun iv jv wr => ∃ (q : Nat) (x : Int) (P M S : Fo), iv = .int .i64 q ∧ jv = .int .i64 x ∧ Hid (f = P.app (M.app S)) ∧ Hid (P.len = q ∧ S.len = q) ∧ Hid (x = (q : Int) + M.len - 1) ∧ -1 ≤ x ∧ x < n ∧ q ≤ n ∧ Hid (RowAt wr X g 0 ((revF S).app (M.app (revF P)))) ∧ Hid (∀ j, wr.frozen? ⟨g, j, none⟩ = false) ∧ Hid (Below B w wr) ∧ Hid (∀ b, b ≠ g → wr.heap[b]? = w.heap[b]?)) (fun iv jv _ => (RowKit.intOf jv - RowKit.intOf iv + 1).toNat)
  case atStart => exact ⟨0, (n : Int) - 1, .nil, f, .nil, rfl, rfl, Lib.hid (by rw [Fo.app, Fo.app_nil]), Lib.hid ⟨rfl, rfl⟩, Lib.hid (by rw [HN.out]; simp), by omega, by omega, Nat.zero_le _, Lib.hid (by rw [revF, Fo.app, Fo.app_nil]; exact HF.out), HFZ, Lib.hid (Below.refl _ _), Lib.hid (fun _ _ => rfl)⟩
  case round =>
    obtain ⟨q, x, P, M, S, rfl, rfl, hfe, hlen, hx, hx1, hx2, hqn, HR, HZ, HB, HK⟩ := hrel
    have hxo := hx.out
    by_cases hM : 2 ≤ M.len
    · have hlt : (q : Int) < x := by omega
      obtain ⟨k1, l1, d1, mn1, mx1, M1, rfl⟩ := vfirst (f := M) (by omega)
      obtain ⟨M2, k2, l2, d2, mn2, mx2, rfl⟩ := last_of M1 (by simp only [Fo.len] at hM; omega)
      have hml : (Fo.cons k1 l1 d1 mn1 mx1 (M2.app (.cons k2 l2 d2 mn2 mx2 .nil))).len = M2.len + 2 := by simp [Fo.len, Fo.app_len]
      rw [hml] at hxo
      obtain ⟨m, hm⟩ : ∃ m, q + 1 + M2.len = m := ⟨_, rfl⟩
      obtain rfl : x = (m : Int) := by omega
      have hrow := HR.out
      rw [Fo.app, Fo.app_assoc, Fo.app] at hrow
      have hrow2 : RowAt wr X g 0 ((revF S).app (.cons k1 l1 d1 mn1 mx1 (M2.app (.cons k2 l2 d2 mn2 mx2 (revF P))))) := hrow
      obtain ⟨K1, c1, K2, c2, ⟨a0, a1, a2, a3, a4⟩, ⟨b0, b1, b2, b3, b4⟩, hsw⟩ := hrow2.swap (p := q) (m := m) (by rw [revF_len]; exact hlen.out.2) hm HZ.out
      have HSW := Lib.hid hsw
      have f0 := HZ.out (q * 5); have f1 := HZ.out (q * 5 + 1); have f2 := HZ.out (q * 5 + 2); have f3 := HZ.out (q * 5 + 3); have f4 := HZ.out (q * 5 + 4)
      have g0 := HZ.out (m * 5); have g1 := HZ.out (m * 5 + 1); have g2 := HZ.out (m * 5 + 2); have g3 := HZ.out (m * 5 + 3); have g4 := HZ.out (m * 5 + 4)
      have hqm : q < m := by omega
      have hq0 : (0 : Int) ≤ q := by omega
      have hm0 : (0 : Int) ≤ m := by omega
      have hmn : (m : Int) < n := by omega
      have hqn2 : (q : Int) < n := by omega
      have HSF := swap_facts (B := B) (w := w) (o1 := q * 5) (o2 := m * 5) (u0 := .int .i64 k2) (u1 := .string l2) (u2 := .slice K2 d2.len c2) (u3 := .int .i64 mn2) (u4 := .int .i64 mx2) (v0 := .int .i64 k1) (v1 := .string l1) (v2 := .slice K1 d1.len c1) (v3 := .int .i64 mn1) (v4 := .int .i64 mx1) HZ.out HB.out hB HK.out
      have HR2 := Lib.hid (show RowAt (puto (puto wr g (q * 5) (.int .i64 k2) (.string l2) (.slice K2 d2.len c2) (.int .i64 mn2) (.int .i64 mx2)) g (m * 5) (.int .i64 k1) (.string l1) (.slice K1 d1.len c1) (.int .i64 mn1) (.int .i64 mx1)).drew X g 0 ((revF (.cons k2 l2 d2 mn2 mx2 S)).app (M2.app (revF (P.app (.cons k1 l1 d1 mn1 mx1 .nil))))) from by
        rw [revF_app, revF, Fo.app_assoc]
        exact row_drew hsw)
      obtain ⟨HZ2, HB2, HK2⟩ := HSF
      have HFE := Lib.hid (show f = (P.app (.cons k1 l1 d1 mn1 mx1 .nil)).app (M2.app (.cons k2 l2 d2 mn2 mx2 S)) by rw [hfe.out, Fo.app_assoc]; simp only [Fo.app, Fo.app_assoc])
      have HLE := Lib.hid (show (P.app (.cons k1 l1 d1 mn1 mx1 .nil)).len = q + 1 ∧ (Fo.cons k2 l2 d2 mn2 mx2 S).len = q + 1 from ⟨by rw [Fo.app_len, hlen.out.1]; rfl, by rw [Fo.len, hlen.out.2]⟩)
      have hx3 : (m : Int) - 1 < n := by omega
      have hx4 : -1 ≤ (m : Int) - 1 := by omega
      have HXE := Lib.hid (show (m : Int) - 1 = ((q + 1 : Nat) : Int) + M2.len - 1 by omega)
      clear hrow hrow2 hsw hx hxo hml
      go_wp2_with fail
      go_region
      all_goals
        go_wp2_with fail
        exact ⟨⟨q + 1, (m : Int) - 1, _, M2, _, by go_num, rfl, HFE, HLE, HXE, hx4, hx3, by omega, HR2, HZ2, HB2, HK2⟩, by simp [RowKit.intOf] <;> omega⟩
    · have hlt : ¬ (q : Int) < x := by omega
      have HE := Lib.hid (show (revF S).app (M.app (revF P)) = revF f by rw [hfe.out, revF_app, revF_app, revF_short (f := M) (by omega), Fo.app_assoc])
      clear hx hxo
      go_wp2_with fail
      first | go_end0 | skip
      exact ⟨rfl, by rw [← HE.out]; exact HR.out, HZ.out, HB.out, HK.out⟩
end Go.Proofs.YtpaehicfndkliaaGreatDoor.De


/- The walk of 'turn'. Condition: the path can be read; its rows are short. -/
namespace Go.Proofs.YtpaehicfndkliaaGreatDoor.De
open Go.RowKit Go.Lib Na Go.PN Pa

def tu1 (k : Int) (l : ByteArray) (L : Fo) (mn mx : Int) : Fo := .cons (if k = 2 then 3 else if k = 3 then 2 else k) (if k = 2 ∨ k = 3 then l else ⟨#[]⟩) (if k = 4 then revF L else L) (if k = 9 then mn else 0) (if k = 9 then mx else 0) .nil
/-- A row's paths, each turned round. -/
def tuL : Fo → Fo
  | .nil => .nil
  | .cons k l d mn mx r => (tu1 k l (tuL d) mn mx).app (tuL r)
theorem tuL_app (f g : Fo) : tuL (f.app g) = (tuL f).app (tuL g) := by
  induction f with
  | nil => rfl
  | cons k l d mn mx r _ ih => rw [Fo.app, tuL, tuL, ih, Fo.app_assoc]
theorem tuL_len (f : Fo) : (tuL f).len = f.len := by
  induction f with
  | nil => rfl
  | cons k l d mn mx r _ ih => rw [tuL, Fo.app_len, ih]; simp [tu1, Fo.len]; omega
theorem reads5 (w : World) (v0 v1 v2 v3 v4 : Value) (T : TypeId) : Reads (w.alloc (.cells #[v0, v1, v2, v3, v4] T)) (w.heap.size + 1) 5 (some ⟨w.heap.size, 0, none⟩) 1 [v0, v1, v2, v3, v4] :=
  ⟨rfl, fun _ => ⟨_, rfl, by show w.heap.size < _; omega, lit5 w v0 v1 v2 v3 v4 T⟩⟩
section
variable {w : World} {b : Nat} {v0 v1 v2 v3 v4 : Value}
theorem Bx.set0 (h : Bx w b v0 v1 v2 v3 v4) (x : Value) : Bx (w.setCell ⟨b, 0, none⟩ x) b x v1 v2 v3 v4 := by
  have h0 := h.c0; have h1 := h.c1; have h2 := h.c2; have h3 := h.c3; have h4 := h.c4; have g0 := h.f0; have g1 := h.f1; have g2 := h.f2; have g3 := h.f3; have g4 := h.f4
  refine ⟨?_, ?_, ?_, ?_, ?_, ?_, ?_, ?_, ?_, ?_⟩ <;> go_simp
theorem Bx.set2 (h : Bx w b v0 v1 v2 v3 v4) (x : Value) : Bx (w.setCell ⟨b, 2, none⟩ x) b v0 v1 x v3 v4 := by
  have h0 := h.c0; have h1 := h.c1; have h2 := h.c2; have h3 := h.c3; have h4 := h.c4; have g0 := h.f0; have g1 := h.f1; have g2 := h.f2; have g3 := h.f3; have g4 := h.f4
  refine ⟨?_, ?_, ?_, ?_, ?_, ?_, ?_, ?_, ?_, ?_⟩ <;> go_simp
end
theorem MadeP.drew {w : World} {X : List Nat} {f : Fo} {e : Ending} {w' : World} (h : MadeP w X f e w') : MadeP w X f e w'.drew := by
  obtain ⟨a, h1, h2, h3, h4⟩ := h
  exact ⟨a, h1, h2, h3.below (Below.refl _ _).drew, h4.drew⟩
set_option maxRecDepth 100000 in
set_option maxHeartbeats 4000000 in
theorem reverse_zero (A : Option Addr) (c : Nat) (w : World) : Calls Tryz.prog 72 #[.slice A 0 c] w fun e w' => e = .returned (.tuple #[]) ∧ w' = w := by
  go_enter Tryz.func72, Tryz.ntmps72
  go_wp2_with fail
  go_loop [2, 3] (fun iv jv => iv = .int .i64 0 ∧ jv = .int .i64 (-1)) (fun _ _ => 0)
  case atStart => exact ⟨rfl, rfl⟩
  case round =>
    obtain ⟨rfl, rfl⟩ := hrel
    go_wp2_with fail
    first | go_end0 | skip
    exact ⟨rfl, rfl⟩
/-- A row that is not empty, as it lies. -/
theorem RowN.form {w : World} {base : Nat} {X : List Nat} {A : Option Addr} {c n : Nat} {f : Fo} (h : RowN w base X (.slice A n c) n f) (hn : 1 ≤ n) : ∃ g, A = some ⟨g, 0, Option.none⟩ ∧ RowAt w X g 0 f ∧ (∀ j, w.frozen? ⟨g, j, Option.none⟩ = false) ∧ base ≤ g ∧ g < w.heap.size := by
  obtain ⟨cs, ho, hc⟩ := h.own
  rcases ho.2 with ⟨_, e⟩ | ⟨g, cap, cur, e, h2, h3, h4, h5, h6, h7⟩
  · omega
  · injection e with e1 e2 e3
    subst e1 e3
    refine ⟨g, rfl, ?_, fun j => ho.frozenAt j, h2, (Array.getElem?_eq_some_iff.1 h3).1⟩
    have hv : vb (.slice (some ⟨g, 0, Option.none⟩) n c) = [g] := rfl
    rw [hv] at hc
    refine csl_row (o := 0) hc (fun j u hj => ?_)
    have h8 := ho.cells (g := g) rfl j u hj
    rw [add0] at h8
    rwa [Nat.zero_add]
theorem bx_drew {w : World} {b : Nat} {v0 v1 v2 v3 v4 : Value} (h : Bx w b v0 v1 v2 v3 v4) : Bx w.drew b v0 v1 v2 v3 v4 := h.below (Below.refl _ _).drew
set_option maxRecDepth 100000 in
set_option maxHeartbeats 16000000 in
theorem turn_n (n : Nat) : ∀ (a : Nd) (X : List Nat) (w : World), a.kids.sz < n → Wd 1000 (a.fo .nil) → a.ok w X → (∀ x ∈ X, x < w.heap.size) →
    Calls Tryz.prog 39 #[a.v] w (MadeP w X (tu1 a.k a.l (tuL a.kids) a.mn a.mx)) := by
  induction n with
  | zero => intro a X w hn; omega
  | succ n ih =>
    intro a X w hn hwd hok hX
    obtain ⟨iP, hi, hz0, hz1, hz2⟩ := iPath
    obtain ⟨k, l, A, c, mn, mx, kids⟩ := a
    obtain ⟨hc, hc2, hat⟩ := hok
    unfold Nd.v
    simp only at hn hc hc2 hat hwd ⊢
    have hkl : kids.len ≤ 1000 := hwd.1
    have HN := Lib.hid hn
    have HV := Lib.hid hwd.2.1
    have IH := Lib.hid ih
    have HAT := Lib.hid hat
    have HX := Lib.hid (show ∀ x ∈ (w.heap.size + 2) :: (w.heap.size + 1) :: X, x < w.heap.size + 3 from fun x hx => by
      simp only [List.mem_cons] at hx
      rcases hx with rfl | rfl | hx
      · omega
      · omega
      · have := hX x hx; omega)
    have HFR := Lib.hid (show ∀ (lv : Value) (q : Nat) (f : Fo) (wr : World), RowN wr (w.heap.size + 3) ((w.heap.size + 2) :: (w.heap.size + 1) :: X) lv q f → ∀ y ∈ vb lv ++ (w.heap.size + 2) :: (w.heap.size + 1) :: X, y ∈ X ∨ w.heap.size ≤ y from fun lv q f wr h y hy => by
      rw [List.mem_append, List.mem_cons, List.mem_cons] at hy
      rcases hy with hy | rfl | rfl | hy
      · exact Or.inr (by have := h.lt y hy; omega)
      · exact Or.inr (by omega)
      · exact Or.inr (by omega)
      · exact Or.inl hy)
    have HW0 := Lib.hid (show ∀ o1 o2 o3 : Obj, Below w.heap.size w (((w.alloc o1).alloc o2).alloc o3) ∧ (((w.alloc o1).alloc o2).alloc o3).heap.size = w.heap.size + 3 from fun o1 o2 o3 => ⟨(((Below.refl _ w).alloc (by simp) _).alloc (by simp) _).alloc (by simp; omega) _, by simp⟩)
    have HK0 := Lib.hid (((Bx.new w (.int .i64 k) (.string l) (.slice A kids.len c) (.int .i64 mn) (.int .i64 mx) 24).al obj50).al (obj5 k ⟨#[]⟩ none 0 0 0 0))
    have HR0 := Lib.hid (show Bx (((w.alloc (obj5 k l A kids.len c mn mx)).alloc obj50).alloc (obj5 k ⟨#[]⟩ none 0 0 0 0)) (w.heap.size + 1) (.int .i64 0) (.string ⟨#[]⟩) (.slice none 0 0) (.int .i64 0) (.int .i64 0) from by
      have := (Bx.new (w.alloc (obj5 k l A kids.len c mn mx)) (.int .i64 0) (.string ⟨#[]⟩) (.slice none 0 0) (.int .i64 0) (.int .i64 0) 24).al (obj5 k ⟨#[]⟩ none 0 0 0 0)
      simpa using this)
    have HT0 := Lib.hid (show Bx (((w.alloc (obj5 k l A kids.len c mn mx)).alloc obj50).alloc (obj5 k ⟨#[]⟩ none 0 0 0 0)) (w.heap.size + 2) (.int .i64 k) (.string ⟨#[]⟩) (.slice none 0 0) (.int .i64 0) (.int .i64 0) from by
      have := Bx.new ((w.alloc (obj5 k l A kids.len c mn mx)).alloc obj50) (.int .i64 k) (.string ⟨#[]⟩) (.slice none 0 0) (.int .i64 0) (.int .i64 0) 24
      simpa using this)
    have HS0 := Lib.hid (RowN.none (((w.alloc (obj5 k l A kids.len c mn mx)).alloc obj50).alloc (obj5 k ⟨#[]⟩ none 0 0 0 0)) (w.heap.size + 3) ((w.heap.size + 2) :: (w.heap.size + 1) :: X))
    clear hat hn ih hX hwd
    go_enter Tryz.func39, Tryz.ntmps39
    go_wp2_with fail
    go_loopw [12] (fun iv wr => ∃ (q : Nat) (dn r : Fo) (lv : Value), Hid (kids = dn.app r) ∧ Hid (dn.len = q) ∧ iv = .int .i64 q ∧ Hid (RowN wr (w.heap.size + 3) ((w.heap.size + 2) :: (w.heap.size + 1) :: X) lv q (tuL dn)) ∧ Hid (Bx wr w.heap.size (.int .i64 k) (.string l) (.slice A kids.len c) (.int .i64 mn) (.int .i64 mx)) ∧ Hid (Bx wr (w.heap.size + 1) (.int .i64 0) (.string ⟨#[]⟩) (.slice none 0 0) (.int .i64 0) (.int .i64 0)) ∧ Hid (Bx wr (w.heap.size + 2) (.int .i64 k) (.string ⟨#[]⟩) lv (.int .i64 0) (.int .i64 0)) ∧ Hid (Below w.heap.size w wr) ∧ Hid (w.heap.size + 3 ≤ wr.heap.size)) (fun iv _ => kids.len - (RowKit.intOf iv).toNat)
    case atStart => exact ⟨0, .nil, kids, _, Lib.hid rfl, Lib.hid rfl, rfl, HS0, HK0, HR0, HT0, Lib.hid (HW0.out _ _ _).1, Lib.hid (Nat.le_of_eq (HW0.out _ _ _).2.symm)⟩
    case round =>
      obtain ⟨q, dn, r, lv, hk, hq, rfl, HS, HK, HR, HT, HB, HZ⟩ := hrel
      clear HS0 HK0 HR0 HT0 HW0
      have hlen := Lib.hid (show kids.len = q + r.len by rw [hk.out, Fo.app_len, hq.out])
      cases r with
      | cons k1 l1 d1 mn1 mx1 r1 =>
        have hlt : (q : Int) < kids.len := by have := hlen.out; simp only [Fo.len] at this; omega
        have hq0 : (0 : Int) ≤ q := by omega
        have hk2 : kids = dn.app (.cons k1 l1 d1 mn1 mx1 r1) := hk.out
        obtain ⟨b0, o0, rfl⟩ := at_shape HAT.out (by rw [hk2, Fo.app_len]; simp only [Fo.len]; omega)
        have h3 := (HAT.out.grow (HFR.out _ _ _ _ HS.out)).below HB.out
        rw [hk2] at h3
        obtain ⟨K1, c1, hcel, hc3, hc4, hat1⟩ := h3.nth hq.out
        obtain ⟨e0, e1, e2, e3, e4⟩ := hcel
        have hsz : d1.sz < n := by
          have h5 := congrArg Fo.sz hk2
          rw [Fo.app_sz] at h5
          have h6 := HN.out
          simp only [Fo.sz] at h5
          omega
        have hwk : Wd 1000 (.cons k1 l1 d1 mn1 mx1 .nil) := by
          have h5 := HV.out
          rw [hk2, Wd.app] at h5
          exact ⟨h5.2.1, h5.2.2.1, trivial⟩
        have hq60 : q ≤ 1000 := by omega
        have HSB := Lib.hid (show Below wr.heap.size wr (wr.alloc (obj5 k1 l1 K1 d1.len c1 mn1 mx1)).drew from ((Below.refl _ _).alloc (Nat.le_refl _) _).drew)
        have HCALL := Lib.hid (IH.out ⟨k1, l1, K1, c1, mn1, mx1, d1⟩ (vb lv ++ (w.heap.size + 2) :: (w.heap.size + 1) :: X) (wr.alloc (obj5 k1 l1 K1 d1.len c1 mn1 mx1)).drew hsz hwk (Nd.ok.below ⟨hc3, hc4, hat1⟩ HSB.out) (fun x hx => by have := lt_of HS.out HX.out HZ.out x hx; have := HSB.out.size; omega))
        unfold Nd.v at HCALL
        simp only at HCALL
        have HKK := Lib.hid (show tuL (dn.app (.cons k1 l1 d1 mn1 mx1 .nil)) = (tuL dn).app (tu1 k1 l1 (tuL d1) mn1 mx1) by rw [tuL_app]; congr 1)
        have hkk := Lib.hid (show kids = (dn.app (.cons k1 l1 d1 mn1 mx1 .nil)).app r1 by rw [hk2, Fo.app_assoc]; rfl)
        have hqq := Lib.hid (show (dn.app (.cons k1 l1 d1 mn1 mx1 .nil)).len = q + 1 by rw [Fo.app_len, hq.out]; rfl)
        obtain ⟨⟨p0, p1, p2, p3, p4⟩, o0, o1, o2, o3, o4⟩ := bx_all (HT.out)
        have HT1 := Lib.hid (HT.out.below HSB.out)
        have hzz : w.heap.size + 3 ≤ wr.heap.size := HZ.out
        have hlt3 : w.heap.size + 2 < wr.heap.size := by omega
        clear h3 hat1 hsz hk2 hwk
        go_wp2_with fail
        go_region_law (first
          | (go_simp; go_at_call 39; (with_reducible refine (HCALL.out).mono ?_); rintro e w2 ⟨⟨k2, l2, A2, c2, mn2, mx2, d2⟩, rfl, hfo2, hok2, hb2⟩; have HF2 := Lib.hid hfo2; have HO2 := Lib.hid hok2; have HB2 := Lib.hid hb2; clear hfo2 hok2 hb2; have HB2b := Lib.hid (HSB.out.trans (HB2.out.mono HSB.out.size)); have hlt32 : w.heap.size + 2 < w2.heap.size := Nat.lt_of_lt_of_le hlt3 HB2b.out.size; have HS2 := Lib.hid (HS.out.below HB2b.out); have HZ2 := Lib.hid (Nat.le_trans HZ.out HB2b.out.size); have HT2 := Lib.hid (HT.out.below HB2b.out); obtain ⟨⟨r0, r1', r2, r3, r4⟩, s0, s1, s2, s3, s4⟩ := bx_all HT2.out; obtain ⟨cs8, hown8, hcs8⟩ := HS2.out.own; have HCS8 := Lib.hid hcs8; have HOWN8 := Lib.hid (hown8.alloc (obj5 k2 l2 A2 d2.len c2 mn2 mx2)); clear hown8 hcs8)
          | (refine step_append_any _ rfl (.tmp 17) (.tmp 20) 22 rfl (w.heap.size + 3) 24 iP _ 5 64 Tryz.underlying22 hi hz0 hz1 hz2 rfl (by decide) lv q cs8 rfl HOWN8.out (w2.heap.size + 1) (some ⟨w2.heap.size, 0, none⟩) 1 1 [.int .i64 k2, .string l2, .slice A2 d2.len c2, .int .i64 mn2, .int .i64 mx2] rfl (reads5 w2 _ _ _ _ _ _) (csl_one _ _ _ _ _ _ _) (by unfold maxLen; omega) (by omega) (by have := HZ2.out; simp; omega) ?_; intro v8 w8 hown8 hgrow8 hat8; obtain ⟨HS8, HB8, HZ8⟩ := HS2.out.push_all k2 l2 A2 c2 mn2 mx2 d2 HO2.out HCS8.out HZ2.out hown8 hgrow8 hat8; clear hown8 hgrow8 hat8; obtain ⟨A8, c8, hv8, hvc1, hvc2, hvc3⟩ := HS8.out.at HX.out; subst hv8; clear hvc1 hvc2 hvc3; obtain ⟨⟨t0, t1, t2, t3, t4⟩, j0, j1, j2, j3, j4⟩ := bx_all (HT2.out.at_below HB8.out (by omega))))
        all_goals
          go_wp2_with fail
          exact ⟨⟨q + 1, _, r1, .slice A8 (q + 1) c8, hkk, hqq, by go_num, Lib.hid (by rw [HKK.out, ← HF2.out]; exact HS8.out.set (p := ⟨w.heap.size + 2, 2, none⟩) (by simp) (fun hx => by have := HS8.out.lt _ hx; simp at this <;> omega) _), Lib.hid (((HK.out.below HB2b.out).at_below HB8.out (by omega)).far (p := ⟨w.heap.size + 2, 2, none⟩) (by simp) _), Lib.hid (((HR.out.below HB2b.out).at_below HB8.out (by omega)).far (p := ⟨w.heap.size + 2, 2, none⟩) (by simp) _), Lib.hid ((HT2.out.at_below HB8.out (by omega)).set2 _), Lib.hid ((bt (bt HB.out HB2b.out HB.out.size) HB8.out (by omega)).setCell (p := ⟨w.heap.size + 2, 2, none⟩) (by simp <;> omega) _), Lib.hid (by have := HZ8.out; have := HZ2.out; simp [World.setCell] <;> omega)⟩, by simp [RowKit.intOf] <;> omega⟩
      | nil =>
        have hlt : ¬ (q : Int) < kids.len := by have := hlen.out; simp only [Fo.len] at this; omega
        have hql : q = kids.len := by have := hlen.out; simp only [Fo.len] at this; omega
        have hdk : dn = kids := by have := hk.out; rw [Fo.app_nil] at this; exact this.symm
        obtain ⟨A8, c8, rfl, hv1, hv2, hv3⟩ := HS.out.at HX.out
        subst hql
        subst hdk
        clear hq hk hlen
        have HOK := Lib.hid (show ∀ k' l' mn' mx', Nd.ok wr ((w.heap.size + 2) :: (w.heap.size + 1) :: X) ⟨k', l', A8, c8, mn', mx', tuL dn⟩ from fun _ _ _ _ => ⟨by rw [tuL_len]; exact hv1, hv2, hv3⟩)
        clear hv3
        obtain ⟨⟨x0, x1, x2, x3, x4⟩, y0, y1, y2, y3, y4⟩ := bx_all (HK.out)
        obtain ⟨⟨z0, z1, z2, z3, z4⟩, t0, t1, t2, t3, t4⟩ := bx_all (HR.out)
        obtain ⟨⟨p0, p1, p2, p3, p4⟩, o0, o1, o2, o3, o4⟩ := bx_all (HT.out)
        have hbz : w.heap.size + 3 ≤ wr.heap.size := HZ.out
        have HLS := Lib.hid (show ∀ y, y ∈ (w.heap.size + 1) :: X → y ∈ (w.heap.size + 2) :: (w.heap.size + 1) :: X from fun y hy => List.mem_cons_of_mem _ hy)
        by_cases h23 : k = 2 ∨ k = 3
        · rcases h23 with rfl | rfl
          · go_wp2_with fail
            go_region
            all_goals
              go_wp2_with fail
              exact bodyPost_ret (v := (⟨3, l, A8, c8, 0, 0, tuL dn⟩ : Nd).v) (by simp [results, Tryz.results39, go_sem, z0, z1, z2, z3, z4, tuL_len]) rfl (MadeP.drew (made_w5 (w := w) (a := ⟨3, l, A8, c8, 0, 0, tuL dn⟩) (f := tu1 2 l (tuL dn) mn mx) (b := w.heap.size + 1) rfl ((((HOK.out 3 l 0 0).set (p := ⟨w.heap.size + 2, 0, none⟩) (by simp) (.int .i64 3)).set (p := ⟨w.heap.size + 2, 1, none⟩) (by simp) (.string l)).less HLS.out) ((HB.out.setCell (p := ⟨w.heap.size + 2, 0, none⟩) (by simp <;> omega) _).setCell (p := ⟨w.heap.size + 2, 1, none⟩) (by simp <;> omega) _) (by omega) (.int .i64 3) (.string l) (.slice A8 dn.len c8) (.int .i64 0) (.int .i64 0)))
          · go_wp2_with fail
            go_region
            all_goals
              go_wp2_with fail
              exact bodyPost_ret (v := (⟨2, l, A8, c8, 0, 0, tuL dn⟩ : Nd).v) (by simp [results, Tryz.results39, go_sem, z0, z1, z2, z3, z4, tuL_len]) rfl (MadeP.drew (made_w5 (w := w) (a := ⟨2, l, A8, c8, 0, 0, tuL dn⟩) (f := tu1 3 l (tuL dn) mn mx) (b := w.heap.size + 1) rfl ((((HOK.out 2 l 0 0).set (p := ⟨w.heap.size + 2, 0, none⟩) (by simp) (.int .i64 2)).set (p := ⟨w.heap.size + 2, 1, none⟩) (by simp) (.string l)).less HLS.out) ((HB.out.setCell (p := ⟨w.heap.size + 2, 0, none⟩) (by simp <;> omega) _).setCell (p := ⟨w.heap.size + 2, 1, none⟩) (by simp <;> omega) _) (by omega) (.int .i64 2) (.string l) (.slice A8 dn.len c8) (.int .i64 0) (.int .i64 0)))
        · have t2 : (k == 2) = false := by rw [beq_eq_false_iff_ne]; omega
          have t3 : (k == 3) = false := by rw [beq_eq_false_iff_ne]; omega
          by_cases h4 : k = 4
          · subst h4
            clear h23
            have HLB := Lib.hid (tuL_len dn)
            by_cases hz : dn.len = 0
            · obtain rfl : dn = .nil := nil_of hz
              have HV0 := Lib.hid (show Calls Tryz.prog 72 #[.slice A8 (Fo.nil).len c8] wr fun e w' => e = .returned (.tuple #[]) ∧ w' = wr from reverse_zero A8 c8 wr)
              clear hz
              go_wp2_with (first | (go_at_call 72; (with_reducible refine (HV0.out).mono ?_); rintro e w9 ⟨rfl, rfl⟩))
              exact bodyPost_ret (v := (⟨4, ⟨#[]⟩, A8, c8, 0, 0, .nil⟩ : Nd).v) (by simp [results, Tryz.results39, go_sem, z0, z1, z2, z3, z4, Fo.len]) rfl (made_w5 (w := w) (a := ⟨4, ⟨#[]⟩, A8, c8, 0, 0, .nil⟩) (f := tu1 4 l (tuL .nil) mn mx) (b := w.heap.size + 1) rfl ((HOK.out 4 ⟨#[]⟩ 0 0).less HLS.out) HB.out (by omega) (.int .i64 4) (.string ⟨#[]⟩) (.slice A8 (Fo.nil).len c8) (.int .i64 0) (.int .i64 0))
            · obtain ⟨g, rfl, hrow, hfz, hg1, hg2⟩ := HS.out.form (by omega)
              have HRV := Lib.hid (reverse_any g c8 (w.heap.size + 3) (tuL dn) ((w.heap.size + 2) :: (w.heap.size + 1) :: X) wr hrow hfz (by rw [tuL_len]; exact hv1) hv2 hg2 hg1)
              rw [tuL_len] at HRV
              clear hrow hfz
              go_wp2_with (first | (go_at_call 72; (with_reducible refine (HRV.out).mono ?_); rintro e w9 ⟨rfl, hrow9, hfz9, hb9, hk9⟩; have HW9 := Lib.hid hrow9; have HB9 := Lib.hid hb9; have HK9 := Lib.hid hk9; clear hrow9 hfz9 hb9 hk9; obtain ⟨⟨p0', p1', p2', p3', p4'⟩, o0', o1', o2', o3', o4'⟩ := bx_all (HT.out.at_below HB9.out (by omega)); obtain ⟨⟨r0, r1, r2, r3, r4⟩, s0, s1, s2, s3, s4⟩ := bx_all (HR.out.at_below HB9.out (by omega))))
              exact bodyPost_ret (v := (⟨4, ⟨#[]⟩, some ⟨g, 0, none⟩, c8, 0, 0, revF (tuL dn)⟩ : Nd).v) (by simp [results, Tryz.results39, go_sem, r0, r1, r2, r3, r4, HLB.out, revF_len]) rfl (made_w5 (w := w) (a := ⟨4, ⟨#[]⟩, some ⟨g, 0, none⟩, c8, 0, 0, revF (tuL dn)⟩) (f := tu1 4 l (tuL dn) mn mx) (b := w.heap.size + 1) rfl (Nd.ok.less (X := (w.heap.size + 2) :: (w.heap.size + 1) :: X) ⟨by show (revF (tuL dn)).len ≤ c8; rw [revF_len, HLB.out]; exact hv1, hv2, HW9.out.at (fun hx => by have := HX.out g hx; omega)⟩ HLS.out) (bt HB.out HB9.out (by omega)) (by omega) (.int .i64 4) (.string ⟨#[]⟩) (.slice (some ⟨g, 0, none⟩) dn.len c8) (.int .i64 0) (.int .i64 0))
          · have t4 : (k == 4) = false := by rw [beq_eq_false_iff_ne]; omega
            by_cases h9 : k = 9
            · subst h9
              clear h23 h4 t2 t3 t4
              go_wp2_with fail
              go_region
              all_goals
                go_wp2_with fail
                exact bodyPost_ret (v := (⟨9, ⟨#[]⟩, A8, c8, mn, mx, tuL dn⟩ : Nd).v) (by simp [results, Tryz.results39, go_sem, z0, z1, z2, z3, z4, tuL_len]) rfl (MadeP.drew (made_w5 (w := w) (a := ⟨9, ⟨#[]⟩, A8, c8, mn, mx, tuL dn⟩) (f := tu1 9 l (tuL dn) mn mx) (b := w.heap.size + 1) rfl ((((HOK.out 9 ⟨#[]⟩ mn mx).set (p := ⟨w.heap.size + 2, 3, none⟩) (by simp) (.int .i64 mn)).set (p := ⟨w.heap.size + 2, 4, none⟩) (by simp) (.int .i64 mx)).less HLS.out) ((HB.out.setCell (p := ⟨w.heap.size + 2, 3, none⟩) (by simp <;> omega) _).setCell (p := ⟨w.heap.size + 2, 4, none⟩) (by simp <;> omega) _) (by omega) (.int .i64 9) (.string ⟨#[]⟩) (.slice A8 dn.len c8) (.int .i64 mn) (.int .i64 mx)))
            · have t9 : (k == 9) = false := by rw [beq_eq_false_iff_ne]; omega
              have HTU := Lib.hid (show Fo.cons k ⟨#[]⟩ (tuL dn) 0 0 .nil = tu1 k l (tuL dn) mn mx by unfold tu1; rw [if_neg (by omega), if_neg (by omega), if_neg h23, if_neg h4, if_neg h9, if_neg h9])
              clear h23 h4 h9
              go_wp2_with fail
              exact bodyPost_ret (v := (⟨k, ⟨#[]⟩, A8, c8, 0, 0, tuL dn⟩ : Nd).v) (by simp [results, Tryz.results39, go_sem, z0, z1, z2, z3, z4, tuL_len]) rfl (made_w5 (w := w) (a := ⟨k, ⟨#[]⟩, A8, c8, 0, 0, tuL dn⟩) (f := tu1 k l (tuL dn) mn mx) (b := w.heap.size + 1) HTU.out ((HOK.out k ⟨#[]⟩ 0 0).less HLS.out) HB.out (by omega) (.int .i64 k) (.string ⟨#[]⟩) (.slice A8 dn.len c8) (.int .i64 0) (.int .i64 0))
end Go.Proofs.YtpaehicfndkliaaGreatDoor.De


/- The walk of 'Turn'. Condition: the path can be read. -/
namespace Go.Proofs.YtpaehicfndkliaaGreatDoor.De
open Go.RowKit Go.Lib Na Go.PN Pa

theorem wd_val {f : Fo} (h : Val f) (hs : f.sz ≤ 1000) : Wd 1000 f := by
  induction f with
  | nil => trivial
  | cons k l d mn mx r ih1 ih2 =>
    obtain ⟨_, h2, h3⟩ := h.cons
    have := sz_len d
    simp only [Fo.sz] at hs
    exact ⟨by omega, ih1 h2 (by omega), ih2 h3 (by omega)⟩
theorem wd_may {f : Fo} {at_ : Int} (h : mayL f at_ = true) : Wd 1000 f := by
  induction f generalizing at_ with
  | nil => trivial
  | cons k l d mn mx r ih1 ih2 =>
    simp only [mayL, Bool.and_eq_true] at h
    refine ⟨?_, ih1 h.1.2, ih2 h.2⟩
    have h1 := h.1.1.1
    unfold kindN at h1
    split at h1
    · have := of_decide_eq_true h1; omega
    · split at h1
      · have := of_decide_eq_true h1; omega
      · split at h1
        · have := of_decide_eq_true h1; omega
        · cases h1
theorem wd_known {k : Int} {l : ByteArray} {d : Fo} {mn mx : Int} (h : knownB k l d mn mx = true) : Wd 1000 (.cons k l d mn mx .nil) := by
  unfold knownB at h
  rw [Bool.or_eq_true, decide_eq_true_eq] at h
  rcases h with h | h
  · obtain ⟨h1, _, _, h4⟩ := check_zero h
    exact wd_val h1 (by simp only [Fo.sz]; omega)
  · exact wd_may h
def turnR (k : Int) (l : ByteArray) (d : Fo) (mn mx : Int) : Fo := if knownB k l d mn mx = true then tu1 k l (tuL d) mn mx else zerF
set_option maxRecDepth 100000 in
set_option maxHeartbeats 4000000 in
theorem Turn_any (a : Nd) (X : List Nat) (w : World) (h : a.ok w X) (hbd : Bd (a.fo .nil)) (hX : ∀ x ∈ X, x < w.heap.size) : Calls Tryz.prog 13 #[a.v] w (MadeP w X (turnR a.k a.l a.kids a.mn a.mx)) := by
  have HK := Lib.hid (fun (w1 : World) (hb : Below w.heap.size w w1) => known_any a X w1 (h.below hb) hbd)
  have HZ := Lib.hid (show ∀ o1 : Obj, Bx ((w.alloc o1).alloc obj50) (w.heap.size + 1) (.int .i64 0) (.string ⟨#[]⟩) (.slice none 0 0) (.int .i64 0) (.int .i64 0) from fun o1 => by
    have := Bx.new (w.alloc o1) (.int .i64 0) (.string ⟨#[]⟩) (.slice none 0 0) (.int .i64 0) (.int .i64 0) 24
    simpa using this)
  have HY := Lib.hid ((Bx.new w (.int .i64 a.k) (.string a.l) (.slice a.A a.kids.len a.c) (.int .i64 a.mn) (.int .i64 a.mx) 24).al obj50)
  have HB := Lib.hid (show ∀ o1 o2 : Obj, Below w.heap.size w ((w.alloc o1).alloc o2) from fun o1 o2 => ((Below.refl _ w).alloc (by simp) o1).alloc (by simp) o2)
  have HS := Lib.hid (show ∀ o1 o2 : Obj, ((w.alloc o1).alloc o2).heap.size = w.heap.size + 2 from fun o1 o2 => by simp)
  cases h0 : knownB a.k a.l a.kids a.mn a.mx
  · have HE := Lib.hid (show turnR a.k a.l a.kids a.mn a.mx = zerF by unfold turnR; rw [h0]; rfl)
    rw [h0] at HK
    unfold Nd.v at *
    clear h hbd hX h0
    go_enter Tryz.func13, Tryz.ntmps13
    go_wp2_with (first
      | (go_at_call 38; (with_reducible refine (HK.out _ (HB.out _ _)).mono ?_); rintro e w1 ⟨rfl, hb1⟩; have HB1 := Lib.hid ((HB.out (obj5 a.k a.l a.A a.kids.len a.c a.mn a.mx) obj50).trans (hb1.mono (by rw [HS.out]; omega))); obtain ⟨⟨r0, r1, r2, r3, r4⟩, s0, s1, s2, s3, s4⟩ := bx_all ((HZ.out (obj5 a.k a.l a.A a.kids.len a.c a.mn a.mx)).below hb1); clear hb1))
    exact bodyPost_ret (v := (⟨0, ⟨#[]⟩, none, 0, 0, 0, .nil⟩ : Nd).v) (by simp [results, Tryz.results13, go_sem, r0, r1, r2, r3, r4, Fo.len]) rfl (by
      rw [HE.out]
      exact made_w5 (a := ⟨0, ⟨#[]⟩, none, 0, 0, 0, .nil⟩) rfl ⟨Nat.le_refl _, Nat.zero_le _, trivial⟩ HB1.out (by omega) _ _ _ _ _)
  · have HE := Lib.hid (show turnR a.k a.l a.kids a.mn a.mx = tu1 a.k a.l (tuL a.kids) a.mn a.mx by unfold turnR; rw [h0]; rfl)
    rw [h0] at HK
    have HP := Lib.hid (fun (w1 : World) (hb : Below w.heap.size w w1) (hz1 : w.heap.size + 2 ≤ w1.heap.size) => turn_n (a.kids.sz + 1) a ((w.heap.size + 1) :: X) w1 (Nat.lt_succ_self _) (wd_known h0) ((ok_grow h (fun y hy => by
      rcases List.mem_cons.1 hy with rfl | hy
      · exact Or.inr (by omega)
      · exact Or.inl hy)).below hb) (fun x hx => by
      rcases List.mem_cons.1 hx with rfl | hx
      · omega
      · have := hX x hx; omega))
    unfold Nd.v at *
    clear h hbd hX h0
    go_enter Tryz.func13, Tryz.ntmps13
    go_wp2_with (first
      | (go_at_call 38; (with_reducible refine (HK.out _ (HB.out _ _)).mono ?_); rintro e w1 ⟨rfl, hb1⟩; have HB1 := Lib.hid ((HB.out (obj5 a.k a.l a.A a.kids.len a.c a.mn a.mx) obj50).trans (hb1.mono (by rw [HS.out]; omega))); have HS1 := Lib.hid (show w.heap.size + 2 ≤ w1.heap.size by have := hb1.size; rw [HS.out] at this; exact this); have HZ1 := Lib.hid ((HZ.out (obj5 a.k a.l a.A a.kids.len a.c a.mn a.mx)).below hb1); obtain ⟨⟨x0, x1, x2, x3, x4⟩, y0, y1, y2, y3, y4⟩ := bx_all (HY.out.below hb1); clear hb1)
      | (go_at_call 39; (with_reducible refine (HP.out _ HB1.out HS1.out).mono ?_); rintro e w2 ⟨⟨k2, l2, A2, c2, mn2, mx2, d2⟩, rfl, hfo2, hok2, hb2⟩; have HF2 := Lib.hid hfo2; have HO2 := Lib.hid hok2; have HB2 := Lib.hid hb2; clear hfo2 hok2 hb2; obtain ⟨⟨r0, r1, r2, r3, r4⟩, s0, s1, s2, s3, s4⟩ := bx_all (HZ1.out.below HB2.out)))
    exact bodyPost_ret (v := (⟨k2, l2, A2, c2, mn2, mx2, d2⟩ : Nd).v) (by simp [results, Tryz.results13, go_sem, r0, r1, r2, r3, r4]) rfl (by
      rw [HE.out]
      exact made_w5 HF2.out HO2.out (bt HB1.out HB2.out HB1.out.size) (by omega) _ _ _ _ _)
end Go.Proofs.YtpaehicfndkliaaGreatDoor.De
