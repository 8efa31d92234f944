/- The walks of the small functions on digits: noughts at the end are cut off, a copy is one's own. Conditions: the digits can be read. -/
import Derived.Test.YtdkmmnehlmaebaaDoorRows
import Derived.Test.YtdkmmnehlmaebaaDoorNWh
import Derived.Test.YtdkmmnehlmaebaaDoorNNT
import Derived.WalkSpells
import Derived.WalkLawsBesides
import Derived.LoopTactic
import Derived.Deep.QuietTactic
import Derived.BigQuiet
import Derived.Outline
import Derived.WalkSmall
namespace Go.Proofs.YtdkmmnehlmaebaaDoor.Na
open Go.RowKit Go.NT

abbrev u32 : Int → Value := Value.int .u32
theorem info96 : (Tryd.prog.info? 96).map (fun i => (i.zero, i.size, i.bytes)) = some (some (.int .u32 0), 1, 4) := by kernel_rfl

theorem Reads.len {w : World} {B n : Nat} {A : Option Addr} {xs : List Int} (h : Reads w B 1 A n (xs.map (Value.int .u32))) : xs.length = n := by have := h.1; simpa using this
theorem Reads.get {w : World} {B n k : Nat} {A : Option Addr} {xs : List Int} (h : Reads w B 1 A n (xs.map (Value.int .u32))) (hk : k < n) :
    ∃ ad, A = some ad ∧ ad.block < B ∧ w.cell? (ad.add k) = some (.int .u32 (xs.getD k 0)) := by
  have hn := h.len
  obtain ⟨ad, u, e, hb, hx, hc⟩ := h.at_ hk
  refine ⟨ad, e, hb, ?_⟩
  rw [hc, ← hx, List.getElem?_map, List.getElem?_eq_getElem (by omega : k < xs.length), List.getD_eq_getElem?_getD, List.getElem?_eq_getElem (by omega : k < xs.length)]; rfl

def lenV : Value → Nat
  | .slice _ m _ => m
  | _ => 0
theorem strip_take_nz {xs : List Int} {m : Nat} (h0 : 0 < m) (hm : m ≤ xs.length) (h : xs.getD (m - 1) 0 ≠ 0) : strip (xs.take m) = xs.take m := by
  obtain ⟨k, rfl⟩ : ∃ k, m = k + 1 := ⟨m - 1, by omega⟩
  rw [Nat.add_sub_cancel] at h
  rw [take_snoc xs k (by omega)]
  exact strip_snoc _ h
theorem strip_take_z {xs : List Int} {m : Nat} (h0 : 0 < m) (hm : m ≤ xs.length) (h : xs.getD (m - 1) 0 = 0) : strip (xs.take m) = strip (xs.take (m - 1)) := by
  obtain ⟨k, rfl⟩ : ∃ k, m = k + 1 := ⟨m - 1, by omega⟩
  rw [Nat.add_sub_cancel] at h ⊢
  rw [take_snoc xs k (by omega), h]
  exact strip_snoc_zero _

set_option maxHeartbeats 400000 in
theorem whole_any (A : Option Addr) (n c : Nat) (xs : List Int) (w : World) {B : Nat} (hr : Reads w B 1 A n (xs.map (Value.int .u32))) (hc : n ≤ c) (hn : n ≤ 9223372036854775807) :
    Calls Tryd.prog 86 #[.slice A n c] w fun e w' => e = .returned (.slice A (strip xs).length c) ∧ w = w' := by
  have hl := hr.len
  have HL := Lib.hid hl
  clear hl
  go_enter Tryd.func86, Tryd.ntmps86
  go_wp2_with fail
  go_loop [0] (fun v => ∃ m : Nat, m ≤ n ∧ v = .slice A m c ∧ Hid (strip (xs.take m) = strip xs)) (fun v => lenV v)
  case atStart => exact ⟨n, Nat.le_refl _, rfl, Lib.hid (by rw [List.take_of_length_le (by rw [HL.out]; omega)])⟩
  case round =>
    obtain ⟨m, hm, rfl, hp⟩ := hrel
    by_cases h0 : 0 < m
    · obtain ⟨ad, rfl, hb, hcell⟩ := hr.get (show m - 1 < n by omega)
      have hmc : m - 1 ≤ c := by omega
      have hz := Lib.hid (strip_take_z (xs := xs) h0 (by rw [HL.out]; exact hm))
      have hnz := Lib.hid (strip_take_nz (xs := xs) h0 (by rw [HL.out]; exact hm))
      generalize xs.getD (m - 1) 0 = x at *
      by_cases hx : x = 0
      · subst hx
        go_wp2_with fail
        exact ⟨⟨m - 1, by omega, rfl, Lib.hid ((hz.out rfl).symm.trans hp.out)⟩, by show m - 1 < m; omega⟩
      · have hx2 : (x == 0) = false := by simpa using hx
        have hq := Lib.hid ((hnz.out hx).symm.trans hp.out)
        clear hx
        go_wp2_with fail
        go_ret
        have hlen : (strip xs).length = m := by rw [← hq.out, List.length_take, HL.out]; omega
        exact ⟨by rw [hlen]; rfl, rfl⟩
    · obtain rfl : m = 0 := by omega
      go_wp2_with fail
      go_ret
      have hlen : (strip xs).length = 0 := by rw [← hp.out]; rfl
      exact ⟨by rw [hlen]; rfl, rfl⟩

theorem whole_q {A : Option Addr} {n c : Nat} {xs : List Int} {w : World} {B : Nat} (hr : Reads w B 1 A n (xs.map (Value.int .u32))) (hc : n ≤ c) (hn : n ≤ 9223372036854775807) (k : Nat) :
    Calls Tryd.prog 86 #[.slice A n c] (w.drewN k) fun e w'' => e = .returned (.slice A (strip xs).length c) ∧ ∃ m, w'' = w.drewN m :=
  Calls.quiet_of_same ((whole_any A n c xs _ (hr.drewN k) hc hn).mono fun _ _ h => ⟨h.1, h.2.symm⟩)
theorem whole_reads {w : World} {B n : Nat} {A : Option Addr} {xs : List Int} (h : Reads w B 1 A n (xs.map (Value.int .u32))) : Reads w B 1 A (strip xs).length ((strip xs).map (Value.int .u32)) := by
  obtain ⟨e, hl⟩ := strip_take xs
  have := h.len
  have h2 := h.take1 (k := (strip xs).length) (by omega)
  rw [← e] at h2
  exact h2

/-- A number as it is handed on: whether it is infinite, and its digits, which can be read. -/
def NV (w : World) (A : Option Addr) (n c : Nat) (xs : List Int) : Prop := Reads w w.heap.size 1 A n (xs.map (Value.int .u32)) ∧ n ≤ c ∧ U32 xs ∧ n ≤ 9223372036854775807
theorem NV.below {w w' : World} {A : Option Addr} {n c : Nat} {xs : List Int} (h : NV w A n c xs) (hb : Below w.heap.size w w') : NV w' A n c xs :=
  ⟨(h.1.below hb).more hb.size, h.2⟩
theorem NV.len {w : World} {A : Option Addr} {n c : Nat} {xs : List Int} (h : NV w A n c xs) : xs.length = n := h.1.len

theorem inf_any (w : World) : Calls Tryd.prog 46 #[] w fun e w' => e = .returned (.agg #[.bool true, .slice none 0 0]) ∧ Below w.heap.size w w' := by
  go_enter Tryd.func46, Tryd.ntmps46
  go_wp2_with fail
  exact bodyPost_ret (v := .agg #[.bool true, .slice none 0 0]) (by simp [results, Tryd.results46, go_sem]) rfl ⟨rfl, (Below.refl _ _).alloc (Nat.le_refl _) _⟩

theorem may_any (b : Bool) (A : Option Addr) (n c : Nat) (xs : List Int) (w : World) (h : NV w A n c xs) :
    Calls Tryd.prog 76 #[.agg #[.bool b, .slice A n c]] w fun e w' => e = .returned (.bool (if b then ((n : Int) == 0) else (((strip xs).length : Int) == (n : Int)))) ∧ Below w.heap.size w w' := by
  obtain ⟨h1, h2, h3, h4⟩ := h
  cases b with
  | true =>
    go_enter Tryd.func76, Tryd.ntmps76
    go_wp2_with fail
    go_ret
    exact ⟨rfl, (Below.refl _ _).alloc (Nat.le_refl _) _⟩
  | false =>
    go_enter Tryd.func76, Tryd.ntmps76
    go_wp2_with fail
    go_quiet ((go_at_call 86; exact whole_q (h1.alloc (Nat.le_refl _) _) h2 h4 _))
    go_wp2_with fail
    go_ret
    exact ⟨rfl, below_drewN ((Below.refl _ _).alloc (Nat.le_refl _) _) _⟩

theorem NV.alloc {w : World} {A : Option Addr} {n c : Nat} {xs : List Int} (h : NV w A n c xs) (o : Obj) : NV (w.alloc o) A n c xs := h.below ((Below.refl _ _).alloc (Nat.le_refl _) _)
theorem NV.strip {w : World} {A : Option Addr} {n c : Nat} {xs : List Int} (h : NV w A n c xs) : NV w A (strip xs).length c (strip xs) := by
  have hl := h.len
  have := (strip_take xs).2
  exact ⟨whole_reads h.1, by have := h.2.1; omega, h.2.2.1.strip, by have := h.2.2.2; omega⟩

/-- What 'nat.Of' gives. -/
def ofD (x : Int) : List Int := strip [x % 4294967296, x / 4294967296]
theorem reads2 (W : World) (a b : Int) (t : TypeId) : Reads (W.alloc (.cells #[.int .u32 a, .int .u32 b] t)) (W.heap.size + 1) 1 (some ⟨W.heap.size, 0, none⟩) 2 ([a, b].map (Value.int .u32)) :=
  ⟨by simp, fun _ => ⟨_, rfl, by show W.heap.size < _; omega, cell_two_new W _ _ t⟩⟩
theorem reads2' (w : World) (o : Obj) (a b : Int) (t : TypeId) : Reads ((w.alloc o).alloc (.cells #[.int .u32 a, .int .u32 b] t)) (w.heap.size + 2) 1 (some ⟨w.heap.size + 1, 0, none⟩) 2 ([a, b].map (Value.int .u32)) := by
  have h := reads2 (w.alloc o) a b t
  have hsz : (w.alloc o).heap.size = w.heap.size + 1 := by simp
  rw [hsz] at h
  exact h
theorem of_u32 {x : Int} (h0 : 0 ≤ x) (h1 : x < 18446744073709551616) : U32 [x % 4294967296, x / 4294967296] := by
  intro y hy
  simp only [List.mem_cons, List.not_mem_nil, or_false] at hy
  unfold W
  rcases hy with rfl | rfl <;> omega
set_option maxHeartbeats 400000 in
theorem of_any (x : Int) (w : World) (h0 : 0 ≤ x) (h1 : x < 18446744073709551616) :
    Calls Tryd.prog 85 #[.int .u64 x] w fun e w' => ∃ (A : Option Addr) (n c : Nat), e = .returned (.agg #[.bool false, .slice A n c]) ∧ NV w' A n c (ofD x) ∧ Below w.heap.size w w' := by
  have h1' : x ≤ 18446744073709551615 := by omega
  have e1 : x / 4294967296 < 4294967296 := by omega
  have e2 : 0 ≤ x / 4294967296 := by omega
  have HU := of_u32 h0 h1
  clear h1
  have hr2 := fun o => reads2' w o (x % 4294967296) (x / 4294967296) 96
  have hq := hr2 (.cells #[.bool false, .slice none 0 0] 24)
  go_enter Tryd.func85, Tryd.ntmps85
  go_wp2_with (go_at_call 86; (with_reducible refine (whole_any (some ⟨w.heap.size + 1, 0, none⟩) 2 2 [x % 4294967296, x / 4294967296] _ hq (Nat.le_refl _) (by omega)).mono ?_); rintro e w' ⟨rfl, rfl⟩)
  have hs := strip_take [x % 4294967296, x / 4294967296]
  refine bodyPost_ret (v := .agg #[.bool false, .slice (some ⟨w.heap.size + 1, 0, none⟩) (strip [x % 4294967296, x / 4294967296]).length 2]) (by simp [results, Tryd.results85, go_sem]) rfl ⟨_, _, _, rfl, ?_, ?_⟩
  · exact ⟨(whole_reads (hr2 _)).more (by simp), hs.2, HU.strip, by have := hs.2; simp at this; omega⟩
  · exact ((Below.refl _ _).alloc (Nat.le_refl _) _).alloc (by simp) _

/-- What 'nat.Compare' and the reference's give: an infinite one is the greatest. -/
def cmpV (a : Bool) (x : Int) (b : Bool) (y : Int) : Int :=
  if a then (if b then 0 else 1) else if b then -1 else if x < y then -1 else if y < x then 1 else 0
end Go.Proofs.YtdkmmnehlmaebaaDoor.Na
