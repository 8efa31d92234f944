/- A row of bytes as a text; bytes are between 0 and 255. Conditions: the bytes can be read. -/
import Derived.Test.YtdpheomokeikbaaDoorPq
import Derived.Laws.BytesArg
namespace Go.Proofs.YtdpheomokeikbaaDoor
open Go.RowKit Go.NT Go.Lib

/-- The bytes of a list of numbers. -/
def toB (l : List Int) : List UInt8 := l.map (fun z => UInt8.ofNat z.toNat)
def In255 (l : List Int) : Prop := ∀ z ∈ l, 0 ≤ z ∧ z ≤ 255
theorem toB_get {l : List Int} (h : In255 l) {j : Nat} (hj : j < (toB l).length) : ((toB l)[j].toNat : Int) = l[j]'(by simpa [toB] using hj) := by
  have hj' : j < l.length := by simpa [toB] using hj
  have hz := h _ (List.getElem_mem hj')
  have e : (toB l)[j] = UInt8.ofNat (l[j]'hj').toNat := by simp [toB]
  rw [e, UInt8.toNat_ofNat']
  omega
theorem conv_row {w : World} {A : Option Addr} {c : Nat} {l : List Int} {B : Nat} (hr : Reads w B 1 A l.length (l.map (Value.int .u8))) (hl : In255 l) :
    (convert 41 9 (.slice A l.length c)).run Tryd.prog w = .ok (.string ⟨(toB l).toArray⟩) w := by
  cases A with
  | none =>
    have h0 : l = [] := by
      rcases Nat.eq_zero_or_pos l.length with h | h
      · exact List.eq_nil_of_length_eq_zero h
      · obtain ⟨ad, e, _⟩ := hr.2 h; cases e
    subst h0
    exact run_convert_bytes_nil w 41 5 Tryd.underlying41 Tryd.underlying5 _ _ 9 Tryd.underlying9
  | some a =>
    have hlen : (toB l).length = l.length := by simp [toB]
    have h := run_convert_bytes_back (P := Tryd.prog) w 41 9 5 a c (toB l) Tryd.underlying41 Tryd.underlying5 Tryd.underlying9 (fun j hj => by
      have hj' : j < l.length := by omega
      obtain ⟨ad, e, _, hc⟩ := hr.2 (by omega)
      injection e with e
      subst e
      rw [toB_get hl hj]
      exact hc j _ (by rw [List.getElem?_map, List.getElem?_eq_getElem hj']; rfl))
    rwa [hlen] at h
theorem le4_in {x : Int} (h0 : 0 ≤ x) (h1 : x < 4294967296) : In255 (le4 x) := by
  intro z hz
  unfold le4 at hz
  simp only [List.mem_cons, List.not_mem_nil, or_false] at hz
  rcases hz with rfl | rfl | rfl | rfl <;> omega
theorem byteL_in {n : Nat} {xs : List Int} (hn : n ≤ 64) (hu : U32 xs) : In255 (byteL n xs) := by
  intro z hz
  unfold byteL at hz
  rcases List.mem_cons.1 hz with rfl | hz
  · omega
  · obtain ⟨x, hx, hz⟩ := List.mem_flatMap.1 hz
    exact le4_in (hu x hx).1 (hu x hx).2 z hz
/-- Reading goes on. -/
theorem Reads.on {w w' : World} {A : Option Addr} {n : Nat} {xs : List Value} (h : Reads w w.heap.size 1 A n xs) (hb : Below w.heap.size w w') : Reads w' w'.heap.size 1 A n xs := (h.below hb).more hb.size
end Go.Proofs.YtdpheomokeikbaaDoor
