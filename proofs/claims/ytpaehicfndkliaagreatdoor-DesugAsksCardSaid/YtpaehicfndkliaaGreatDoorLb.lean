
/- A path that came in, opened. Condition: it reads. -/
import Derived.Test.YtpaehicfndkliaaGreatDoorDs
import Derived.Test.YtpaehicfndkliaaGreatDoorLa
namespace Go.Proofs.YtpaehicfndkliaaGreatDoor
open Go.ChangeShapes Go.WideShapes Go.ChangeAt Go.RowKit

theorem cellsPath : Tryz.prog.cellsOf 24 = 5 := by kernel_rfl
theorem cellsInt : Tryz.prog.cellsOf 3 = 1 := by kernel_rfl
theorem cellsRow : Tryz.prog.cellsOf 22 = 1 := by kernel_rfl
theorem fieldsPath : ∃ f0 f1 f2 f3 f4 : Field, Tryz.prog.underlying 24 = some (.struct #[f0, f1, f2, f3, f4]) ∧ f0.type = 3 ∧ f0.offset = 0 ∧ f1.type = 9 ∧ f1.offset = 1 ∧ f2.type = 22 ∧ f2.offset = 2 ∧ f3.type = 3 ∧ f3.offset = 3 ∧ f4.type = 3 ∧ f4.offset = 4 :=
  ⟨_, _, _, _, _, Tryz.underlying24, by kernel_rfl, by kernel_rfl, by kernel_rfl, by kernel_rfl, by kernel_rfl, by kernel_rfl, by kernel_rfl, by kernel_rfl, by kernel_rfl, by kernel_rfl⟩
/-- What a path that came in is. -/
def Came (W : World) (k : Int) (l : ByteArray) (A : Option Addr) (c : Nat) (mn mx : Int) (kids : Pa.Fo) : Prop :=
  kids.len ≤ c ∧ c ≤ 9223372036854775807 ∧ Pa.At W [] kids A ∧ Pa.Bd (.cons k l kids mn mx .nil) ∧ De.Lb (.cons k l kids mn mx .nil)
theorem row_of {W : World} {b : Nat} (len : Nat) : ∀ o : Nat, (∀ i, i < len → ∃ (k : Int) (l : ByteArray) (A : Option Addr) (c : Nat) (mn mx : Int) (kids : Pa.Fo), Pa.Cel W b (o + i * 5) k l A kids.len c mn mx ∧ Came W k l A c mn mx kids) →
    ∃ f : Pa.Fo, f.len = len ∧ Pa.At W [] f (some ⟨b, o, none⟩) ∧ Pa.Bd f ∧ De.Lb f := by
  induction len with
  | zero => intro o _; exact ⟨.nil, rfl, trivial, trivial, trivial⟩
  | succ len ih =>
    intro o h
    obtain ⟨k, l, A, c, mn, mx, kids, hc, h1, h2, h3, h4, h5⟩ := h 0 (by omega)
    obtain ⟨f, g1, g2, g3, g4⟩ := ih (o + 5) (fun i hi => by
      have := h (i + 1) (by omega)
      rwa [show o + (i + 1) * 5 = o + 5 + i * 5 from by omega] at this)
    rw [show o + 0 * 5 = o from by omega] at hc
    exact ⟨.cons k l kids mn mx f, by rw [Pa.Fo.len, g1], ⟨b, o, A, c, rfl, by simp, hc, h1, h2, h3, g2⟩, ⟨h4.1, h4.2.1, h4.2.2.1, g3⟩, ⟨h5.1, h5.2.1, g4⟩⟩
theorem wf64 {n : Int} (h : (Lit.int .i64 n).wf = true) : -9223372036854775808 ≤ n ∧ n ≤ 9223372036854775807 := by
  have hm : IntKind.i64.min = -9223372036854775808 := by decide
  have hM : IntKind.i64.max = 9223372036854775807 := by decide
  simp [Lit.wf, hm, hM] at h
  omega
theorem list5 {α : Type} {cs : List α} (h : cs.length = 5) : ∃ a b c d e, cs = [a, b, c, d, e] := by
  match cs, h with
  | [a, b, c, d, e], _ => exact ⟨a, b, c, d, e, rfl⟩
set_option maxRecDepth 100000 in
theorem came_path {H : Type} {enc : TypeId × Value → H} {W : World} (N : Nat) : ∀ (n : Nat) (cs : List Value) (x : DataW H × List MemPlace), n < N → DataW.trod enc Tryz.prog W 0 (fun _ => true) true n 24 cs = some x →
    ∃ (k : Int) (l : ByteArray) (A : Option Addr) (c : Nat) (mn mx : Int) (kids : Pa.Fo), cs = [.int .i64 k, .string l, .slice A kids.len c, .int .i64 mn, .int .i64 mx] ∧ Came W k l A c mn mx kids := by
  induction N with
  | zero => intro n cs x h; omega
  | succ N ih =>
    intro n cs x hn h
    obtain ⟨f0, f1, f2, f3, f4, hs, t0, o0, t1, o1, t2, o2, t3, o3, t4, o4⟩ := fieldsPath
    obtain ⟨xs, m, rfl, _, hcs, hxs, hf⟩ := DataW.trod_struct hs h
    obtain ⟨c0, c1, c2, c3, c4, rfl⟩ := list5 (hcs.trans cellsPath)
    have hxs5 : xs.length = 5 := hxs
    obtain ⟨y0, y1, y2, y3, y4, rfl⟩ := list5 hxs5
    have g0 := hf 0 f0 rfl
    have g1 := hf 1 f1 rfl
    have g2 := hf 2 f2 rfl
    have g3 := hf 3 f3 rfl
    have g4 := hf 4 f4 rfl
    rw [t0, o0, cellsInt] at g0
    rw [t1, o1, cellsStr] at g1
    rw [t2, o2, cellsRow] at g2
    rw [t3, o3, cellsInt] at g3
    rw [t4, o4, cellsInt] at g4
    have g0' : DataW.trod enc Tryz.prog W 0 (fun _ => true) true m 3 [c0] = some y0 := g0
    have g1' : DataW.trod enc Tryz.prog W 0 (fun _ => true) true m 9 [c1] = some y1 := g1
    have g2' : DataW.trod enc Tryz.prog W 0 (fun _ => true) true m 22 [c2] = some y2 := g2
    have g3' : DataW.trod enc Tryz.prog W 0 (fun _ => true) true m 3 [c3] = some y3 := g3
    have g4' : DataW.trod enc Tryz.prog W 0 (fun _ => true) true m 3 [c4] = some y4 := g4
    clear g0 g1 g2 g3 g4 hf
    obtain ⟨k, e0, _, w0⟩ := DataW.trod_int Tryz.underlying3 g0'
    obtain ⟨l, e1, _, hl⟩ := DataW.trod_string Tryz.underlying9 g1'
    obtain ⟨mn, e3, _, w3⟩ := DataW.trod_int Tryz.underlying3 g3'
    obtain ⟨mx, e4, _, w4⟩ := DataW.trod_int Tryz.underlying3 g4'
    obtain rfl : c0 = .int .i64 k := by simpa using e0
    obtain rfl : c1 = .string l := by simpa using e1
    obtain rfl : c3 = .int .i64 mn := by simpa using e3
    obtain rfl : c4 = .int .i64 mx := by simpa using e4
    have hl2 : l.size ≤ 9223372036854775807 := by unfold maxLen at hl; omega
    rcases DataW.trod_slice Tryz.underlying22 g2' with ⟨e2, _⟩ | ⟨a, len, cap, elems, rest, m2, rfl, e2, _, _, hle, hcap, helen, hel, _, _⟩
    · obtain rfl : c2 = .slice none 0 0 := by simpa using e2
      exact ⟨k, l, none, 0, mn, mx, .nil, rfl, by simp [Pa.Fo.len], by omega, trivial, ⟨wf64 w3, wf64 w4, trivial, trivial⟩, hl2, trivial, trivial⟩
    · obtain rfl : c2 = .slice (some a) len cap := by simpa using e2
      rw [cellsPath] at hel
      have hcap2 : cap ≤ 9223372036854775807 := by unfold maxLen at hcap; omega
      have key : ∀ i, i < len → ∃ (k : Int) (l : ByteArray) (A : Option Addr) (c : Nat) (mn mx : Int) (kids : Pa.Fo), (∀ j v, [Value.int .i64 k, .string l, .slice A kids.len c, .int .i64 mn, .int .i64 mx][j]? = some v → W.cell? ((a.add (i * 5)).add j) = some v) ∧ Came W k l A c mn mx kids := by
        intro i hi
        have h1 := hel i hi
        have h2 : i < elems.length := by omega
        rw [List.getElem?_eq_getElem h2] at h1
        obtain ⟨cs', hc', ht'⟩ := Option.bind_eq_some_iff.1 h1
        obtain ⟨_, hcl, hat⟩ := World.cells?_some hc'
        obtain ⟨k, l, A, c, mn, mx, kids, rfl, hcame⟩ := ih m2 cs' _ (by omega) ht'
        refine ⟨k, l, A, c, mn, mx, kids, fun j v hj => ?_, hcame⟩
        have hj5 : j < 5 := by
          have := (List.getElem?_eq_some_iff.1 hj).1
          simpa using this
        rw [hat j hj5, hj]
      rcases Nat.eq_zero_or_pos len with h0 | h0
      · subst h0
        exact ⟨k, l, some a, cap, mn, mx, .nil, rfl, by simp [Pa.Fo.len], hcap2, trivial, ⟨wf64 w3, wf64 w4, trivial, trivial⟩, hl2, trivial, trivial⟩
      · obtain ⟨b, o, sp⟩ := a
        have hsp : sp = none := by
          obtain ⟨k', l', A', c', mn', mx', kids', hk, _⟩ := key 0 h0
          have h1 := hk 0 _ rfl
          have e : (((⟨b, o, sp⟩ : Addr).add (0 * 5)).add 0) = ⟨b, o, sp⟩ := rfl
          rw [e] at h1
          cases sp with
          | none => rfl
          | some q =>
            unfold World.cell? at h1
            split at h1 <;> simp at h1
        subst hsp
        have hadd : ∀ q, (⟨b, o, none⟩ : Addr).add q = ⟨b, o + q, none⟩ := fun q => by unfold Addr.add; split <;> simp_all
        have hadd2 : ∀ o q, (⟨b, o, none⟩ : Addr).add q = ⟨b, o + q, none⟩ := fun o q => by unfold Addr.add; split <;> simp_all
        obtain ⟨f, hf1, hf2, hf3, hf4⟩ := row_of (W := W) (b := b) len o (fun i hi => by
          obtain ⟨k', l', A', c', mn', mx', kids', hk, hcame⟩ := key i hi
          refine ⟨k', l', A', c', mn', mx', kids', ⟨?_, ?_, ?_, ?_, ?_⟩, hcame⟩
          · have := hk 0 _ rfl; rwa [hadd, hadd2] at this
          · have := hk 1 _ rfl; rwa [hadd, hadd2] at this
          · have := hk 2 _ rfl; rwa [hadd, hadd2] at this
          · have := hk 3 _ rfl; rwa [hadd, hadd2] at this
          · have := hk 4 _ rfl; rwa [hadd, hadd2] at this)
        subst hf1
        exact ⟨k, l, some ⟨b, o, none⟩, cap, mn, mx, f, rfl, hle, hcap2, hf2, ⟨wf64 w3, wf64 w4, hf3, trivial⟩, hl2, hf4, trivial⟩
set_option maxRecDepth 100000 in
theorem open_path {H : Type} {enc : TypeId × Value → H} {W : World} {r : Reach} {b0 : Nat} {v : Value} {d : DataW H} {ps : List MemPlace}
    (hval : Value.okWide Tryz.prog W r b0 24 v) (h : DataW.Trod enc Tryz.prog W 0 (fun _ => true) true 24 v d ps) :
    ∃ x : Pa.Nd, v = x.v ∧ x.ok W [] ∧ (Pa.Bd (x.fo .nil) ∧ De.Lb (x.fo .nil)) := by
  obtain ⟨cs, rfl, hsz⟩ := okWide_struct Tryz.underlying24 hval
  obtain ⟨fuel, hf⟩ := h
  obtain ⟨k, l, A, c, mn, mx, kids, e, h1, h2, h3, h4, h5⟩ := came_path (fuel + 1) fuel _ _ (by omega) hf
  have e' : cs = #[.int .i64 k, .string l, .slice A kids.len c, .int .i64 mn, .int .i64 mx] := by
    apply Array.ext'
    simpa [Value.cells] using e
  subst e'
  exact ⟨⟨k, l, A, c, mn, mx, kids⟩, rfl, ⟨h1, h2, h3⟩, h4, h5⟩
end Go.Proofs.YtpaehicfndkliaaGreatDoor
