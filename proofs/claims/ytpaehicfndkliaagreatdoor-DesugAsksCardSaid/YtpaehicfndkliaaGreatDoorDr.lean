import Derived.Lib.SlicesCompact
import Derived.Sort.EncStr
import Derived.Test.YtpaehicfndkliaaGreatDoorDl
import Derived.Test.YtpaehicfndkliaaGreatDoorShelf
import Derived.Deep.QuietTactic
import Derived.BigQuiet

/- Texts in order, each once: plainly. No condition. -/
namespace Go.Proofs.YtpaehicfndkliaaGreatDoor.De

abbrev leB (x y : List UInt8) : Bool := decide (x ≤ y)
/-- Texts in order, each once. -/
def lbl (xs : List (List UInt8)) : List (List UInt8) := Lib.compact (xs.mergeSort leB)
theorem le_tr (a b c : List UInt8) (h1 : leB a b = true) (h2 : leB b c = true) : leB a c = true := by
  simp only [leB, decide_eq_true_eq] at *
  exact List.le_trans h1 h2
theorem le_to (a b : List UInt8) : (leB a b || leB b a) = true := by
  simp only [leB, Bool.or_eq_true, decide_eq_true_eq]
  exact List.le_total a b
theorem le_an {a b : List UInt8} (h1 : leB a b = true) (h2 : leB b a = true) : a = b := by
  simp only [leB, decide_eq_true_eq] at *
  exact List.le_antisymm h1 h2
/-- One behind the other, and unlike. -/
def Lt (x y : List UInt8) : Prop := leB x y = true ∧ x ≠ y
theorem up_to (zs : List (List UInt8)) (hs : zs.Pairwise fun a b => leB a b = true) (m : Nat) (hm : m ≤ zs.length) :
    (∀ x, x ∈ Lib.compactUpTo zs.toArray m ↔ ∃ j, j < m ∧ zs[j]? = some x) ∧ (Lib.compactUpTo zs.toArray m).Pairwise Lt ∧ (∀ x ∈ Lib.compactUpTo zs.toArray m, ∀ y, 0 < m → zs[m - 1]? = some y → leB x y = true) := by
  induction m with
  | zero => exact ⟨fun x => by simp [Lib.compactUpTo], by simp [Lib.compactUpTo], fun x _ y h => by omega⟩
  | succ m ih =>
    obtain ⟨h1, h2, h3⟩ := ih (by omega)
    have hlt : m < zs.length := by omega
    have hget : zs.toArray[m]! = zs[m] := by simp [hlt]
    have hstep : ∀ j (hj : j < m), leB (zs[j]'(by omega)) zs[m] = true := fun j hj => (List.pairwise_iff_getElem.1 hs) j m (by omega) hlt hj
    rw [Lib.compactUpTo_succ]
    have hle : ∀ x ∈ Lib.compactUpTo zs.toArray m, leB x zs[m] = true := by
      intro x hx
      obtain ⟨j, hj, he⟩ := (h1 x).1 hx
      rw [List.getElem?_eq_getElem (by omega)] at he
      injection he with he
      rw [← he]
      exact hstep j hj
    by_cases hk : Lib.keeps zs.toArray m = true
    · rw [if_pos hk, hget]
      refine ⟨fun x => ?_, ?_, fun x hx y _ hy => ?_⟩
      · rw [List.mem_append, List.mem_singleton, h1]
        constructor
        · rintro (⟨j, hj, he⟩ | rfl)
          · exact ⟨j, by omega, he⟩
          · exact ⟨m, by omega, List.getElem?_eq_getElem hlt⟩
        · rintro ⟨j, hj, he⟩
          by_cases hjm : j = m
          · subst hjm
            rw [List.getElem?_eq_getElem hlt] at he
            injection he with he
            exact Or.inr he.symm
          · exact Or.inl ⟨j, by omega, he⟩
      · rw [List.pairwise_append]
        refine ⟨h2, List.pairwise_singleton _ _, fun x hx y hy => ?_⟩
        rw [List.mem_singleton] at hy
        subst hy
        refine ⟨hle x hx, fun e => ?_⟩
        subst e
        obtain ⟨j, hj, he⟩ := (h1 _).1 hx
        have hm0 : 0 < m := by omega
        have h5 := h3 _ hx (zs[m - 1]'(by omega)) hm0 (List.getElem?_eq_getElem (by omega))
        have h6 := hstep (m - 1) (by omega)
        have h7 := le_an h5 h6
        have h8 : Lib.keeps zs.toArray m = false := Lib.keeps_neg hm0 (by rw [hget]; simp [show m - 1 < zs.length from by omega, h7])
        rw [h8] at hk
        cases hk
      · rw [show m + 1 - 1 = m from rfl, List.getElem?_eq_getElem hlt] at hy
        injection hy with hy
        subst hy
        rw [List.mem_append, List.mem_singleton] at hx
        rcases hx with hx | rfl
        · exact hle x hx
        · simp [leB]
    · rw [if_neg hk, List.append_nil]
      have hm0 : 0 < m := by
        rcases Nat.eq_zero_or_pos m with h | h
        · subst h; exact absurd (by simp [Lib.keeps]) hk
        · exact h
      have heq : zs[m] = zs[m - 1]'(by omega) := by
        have : ¬ (zs.toArray[m]! ≠ zs.toArray[m - 1]!) := fun h => hk (Lib.keeps_pos h)
        rw [hget] at this
        simp only [ne_eq, Classical.not_not] at this
        rw [this]
        simp [show m - 1 < zs.length from by omega]
      refine ⟨fun x => ?_, h2, fun x hx y _ hy => ?_⟩
      · rw [h1]
        constructor
        · rintro ⟨j, hj, he⟩; exact ⟨j, by omega, he⟩
        · rintro ⟨j, hj, he⟩
          by_cases hjm : j = m
          · subst hjm
            refine ⟨j - 1, by omega, ?_⟩
            rw [List.getElem?_eq_getElem hlt] at he
            rw [List.getElem?_eq_getElem (by omega), ← heq]
            exact he
          · exact ⟨j, by omega, he⟩
      · rw [show m + 1 - 1 = m from rfl, List.getElem?_eq_getElem hlt] at hy
        injection hy with hy
        subst hy
        exact hle x hx
theorem lbl_mem (xs : List (List UInt8)) (x : List UInt8) : x ∈ lbl xs ↔ x ∈ xs := by
  have h := (up_to (xs.mergeSort leB) (List.pairwise_mergeSort le_tr le_to xs) (xs.mergeSort leB).length (Nat.le_refl _)).1 x
  unfold lbl Lib.compact
  rw [h, ← (List.mergeSort_perm xs leB).mem_iff]
  constructor
  · rintro ⟨j, _, he⟩; exact List.mem_of_getElem? he
  · intro hx
    obtain ⟨j, hj, he⟩ := List.getElem_of_mem hx
    exact ⟨j, hj, by rw [List.getElem?_eq_getElem hj, he]⟩
theorem lbl_sorted (xs : List (List UInt8)) : (lbl xs).Pairwise Lt :=
  (up_to (xs.mergeSort leB) (List.pairwise_mergeSort le_tr le_to xs) (xs.mergeSort leB).length (Nat.le_refl _)).2.1
theorem sorted_eq {xs ys : List (List UInt8)} (hx : xs.Pairwise Lt) (hy : ys.Pairwise Lt) (h : ∀ z, z ∈ xs ↔ z ∈ ys) : xs = ys := by
  induction xs generalizing ys with
  | nil =>
    cases ys with
    | nil => rfl
    | cons y ys => exact absurd ((h y).2 List.mem_cons_self) (by simp)
  | cons x xs ih =>
    cases ys with
    | nil => exact absurd ((h x).1 List.mem_cons_self) (by simp)
    | cons y ys =>
      rw [List.pairwise_cons] at hx hy
      have e : x = y := by
        have h1 := (h x).1 List.mem_cons_self
        have h2 := (h y).2 List.mem_cons_self
        rcases List.mem_cons.1 h1 with e | h1
        · exact e
        rcases List.mem_cons.1 h2 with e | h2
        · exact e.symm
        exact le_an (hx.1 _ h2).1 (hy.1 _ h1).1
      subst e
      congr 1
      refine ih hx.2 hy.2 fun z => ?_
      constructor
      · intro hz
        rcases List.mem_cons.1 ((h z).1 (List.mem_cons_of_mem _ hz)) with e | h2
        · exact absurd e.symm (hx.1 z hz).2
        · exact h2
      · intro hz
        rcases List.mem_cons.1 ((h z).2 (List.mem_cons_of_mem _ hz)) with e | h2
        · exact absurd e.symm (hy.1 z hz).2
        · exact h2
theorem lbl_eq {xs ys : List (List UInt8)} (h : ∀ z, z ∈ xs ↔ z ∈ ys) : lbl xs = lbl ys :=
  sorted_eq (lbl_sorted xs) (lbl_sorted ys) fun z => by rw [lbl_mem, lbl_mem, h]
theorem lbl_len (xs : List (List UInt8)) : (lbl xs).length ≤ xs.length := by
  unfold lbl Lib.compact Lib.compactUpTo
  rw [List.length_map]
  refine Nat.le_trans (List.length_filter_le _ _) ?_
  rw [List.length_range, (List.mergeSort_perm xs leB).length_eq]
  exact Nat.le_refl _
end Go.Proofs.YtpaehicfndkliaaGreatDoor.De


/- The walk of 'labels'. Condition: the path can be read; it has not too many labels. -/
namespace Go.Proofs.YtpaehicfndkliaaGreatDoor.De
open Go.RowKit Go.Lib Na Go.PN Pa

/-- A row's labels, in their order. -/
def labF : Fo → List ByteArray
  | .nil => []
  | .cons k l d _ _ r => (if k = 2 ∨ k = 3 then [l] else labF d) ++ labF r
theorem labF_app (f g : Fo) : labF (f.app g) = labF f ++ labF g := by
  induction f with
  | nil => rfl
  | cons k l d mn mx r _ ih => rw [Fo.app, labF, labF, ih, List.append_assoc]
theorem labF_one (k : Int) (l : ByteArray) (d : Fo) (mn mx : Int) : labF (.cons k l d mn mx .nil) = if k = 2 ∨ k = 3 then [l] else labF d := by rw [labF, labF, List.append_nil]
theorem infoStr : (Tryz.prog.info? 9).map (fun i => (i.zero, i.size, i.bytes)) = some (some (.string ⟨#[]⟩), 1, 16) := by kernel_rfl
theorem iStr : ∃ i, Tryz.prog.info? 9 = some i ∧ i.zero = some (Value.string ⟨#[]⟩) ∧ i.size = 1 ∧ i.bytes = 16 := by
  have h := infoStr
  cases hi : Tryz.prog.info? 9 with
  | none => rw [hi] at h; cases h
  | some i =>
    rw [hi] at h
    simp only [Option.map_some, Option.some.injEq, Prod.mk.injEq] at h
    exact ⟨i, rfl, h.1, h.2.1, h.2.2⟩
/-- A row of texts of the call's own is handed back. -/
def StrsP (w : World) (xs : List ByteArray) (e : Ending) (w' : World) : Prop := ∃ (A : Option Addr) (c : Nat), e = .returned (.slice A xs.length c) ∧ w'.ownsRow w.heap.size 9 1 (.slice A xs.length c) xs.length (xs.map .string) ∧ Below w.heap.size w w'
theorem own_mono {w : World} {b b' : Nat} {e : TypeId} {size : Nat} {v : Value} {n : Nat} {cs : List Value} (h : w.ownsRow b e size v n cs) (hb : b' ≤ b) : w.ownsRow b' e size v n cs := by
  rcases h with ⟨h1, ⟨h2, h3⟩ | ⟨g, cap, cur, e, h2, h3⟩⟩
  · exact ⟨h1, Or.inl ⟨h2, h3⟩⟩
  · exact ⟨h1, Or.inr ⟨g, cap, cur, e, Nat.le_trans hb h2, h3⟩⟩
theorem bt2 {B C D : Nat} {a b c d : World} (h : Below B a b) (h2 : Below C b c) (h3 : Below D c d) (hBC : B ≤ C) (hBD : B ≤ D) : Below B a d := (h.trans (h2.mono hBC)).trans (h3.mono hBD)
set_option maxRecDepth 100000 in
set_option maxHeartbeats 16000000 in
theorem labels_n (n : Nat) : ∀ (a : Nd) (X : List Nat) (w : World), a.kids.sz < n → a.ok w X → (labF (a.fo .nil)).length ≤ 1000000 →
    Calls Tryz.prog 43 #[a.v] w (StrsP w (labF (a.fo .nil))) := by
  induction n with
  | zero => intro a X w hn; omega
  | succ n ih =>
    intro a X w hn hok hll
    obtain ⟨iS, hi, hz0, hz1, hz2⟩ := iStr
    obtain ⟨k, l, A, c, mn, mx, kids⟩ := a
    obtain ⟨hc, hc2, hat⟩ := hok
    unfold Nd.v Nd.fo at *
    simp only at hn hc hc2 hat hll ⊢
    by_cases h23 : k = 2 ∨ k = 3
    · rcases h23 with rfl | rfl
      · have HT := Lib.hid (show labF (.cons 2 l kids mn mx .nil) = [l] by rw [labF_one]; rfl)
        go_enter Tryz.func43, Tryz.ntmps43
        go_wp2_with fail
        go_ret
        rw [HT.out]
        exact ⟨some ⟨w.heap.size + 1, 0, none⟩, 1, rfl, by
          refine ⟨rfl, Or.inr ⟨w.heap.size + 1, 1, #[.string l], rfl, by omega, ?_, Nat.le_refl _, by decide, rfl, rfl⟩⟩
          have := heap_alloc_new (w.alloc (obj5 2 l A kids.len c mn mx)) (.cells #[.string l] 9)
          simpa using this, ((Below.refl _ w).alloc (Nat.le_refl _) _).alloc (by simp) _⟩
      · have HT := Lib.hid (show labF (.cons 3 l kids mn mx .nil) = [l] by rw [labF_one]; rfl)
        go_enter Tryz.func43, Tryz.ntmps43
        go_wp2_with fail
        go_ret
        rw [HT.out]
        exact ⟨some ⟨w.heap.size + 1, 0, none⟩, 1, rfl, by
          refine ⟨rfl, Or.inr ⟨w.heap.size + 1, 1, #[.string l], rfl, by omega, ?_, Nat.le_refl _, by decide, rfl, rfl⟩⟩
          have := heap_alloc_new (w.alloc (obj5 3 l A kids.len c mn mx)) (.cells #[.string l] 9)
          simpa using this, ((Below.refl _ w).alloc (Nat.le_refl _) _).alloc (by simp) _⟩
    · have t2 : (k == 2) = false := by rw [beq_eq_false_iff_ne]; omega
      have t3 : (k == 3) = false := by rw [beq_eq_false_iff_ne]; omega
      have HT := Lib.hid (show labF (.cons k l kids mn mx .nil) = labF kids by rw [labF_one, if_neg h23])
      rw [HT.out] at hll ⊢
      have HN := Lib.hid hn
      have HA := Lib.hid hat
      have IH := Lib.hid ih
      have HLL := Lib.hid hll
      have HK0 := Lib.hid (Bx.new w (.int .i64 k) (.string l) (.slice A kids.len c) (.int .i64 mn) (.int .i64 mx) 24)
      have HB0 := Lib.hid (show Below w.heap.size w (w.alloc (obj5 k l A kids.len c mn mx)) from (Below.refl _ w).alloc (Nat.le_refl _) _)
      have HZ0 := Lib.hid (show w.heap.size + 1 ≤ (w.alloc (obj5 k l A kids.len c mn mx)).heap.size by simp)
      have HS0 := Lib.hid (show (w.alloc (obj5 k l A kids.len c mn mx)).ownsRow (w.heap.size + 1) 9 1 (.slice none 0 0) 0 ((labF .nil).map .string) from ⟨rfl, Or.inl ⟨rfl, rfl⟩⟩)
      clear hat hn ih HT h23 hll
      go_enter Tryz.func43, Tryz.ntmps43
      go_wp2_with fail
      go_loopw [2, 19] (fun lv iv wr => ∃ (q : Nat) (dn r : Fo) (A1 : Option Addr) (m c1 : Nat), Hid (kids = dn.app r) ∧ Hid (dn.len = q) ∧ iv = .int .i64 q ∧ lv = .slice A1 m c1 ∧ Hid (m = (labF dn).length) ∧ m ≤ 1000000 ∧ Hid (wr.ownsRow (w.heap.size + 1) 9 1 (.slice A1 m c1) m ((labF dn).map .string)) ∧ Hid (Bx wr w.heap.size (.int .i64 k) (.string l) (.slice A kids.len c) (.int .i64 mn) (.int .i64 mx)) ∧ Hid (Below w.heap.size w wr) ∧ Hid (w.heap.size + 1 ≤ wr.heap.size)) (fun _ iv _ => kids.len - (RowKit.intOf iv).toNat)
      case atStart => exact ⟨0, .nil, kids, none, 0, 0, Lib.hid rfl, Lib.hid rfl, rfl, rfl, Lib.hid rfl, Nat.zero_le _, HS0, HK0, HB0, HZ0⟩
      case round =>
        obtain ⟨q, dn, r, A1, m, c1, hk, hq, rfl, rfl, hm, hm6, HS, HK, HB, HZ⟩ := hrel
        clear HS0 HK0 HB0 HZ0
        have hlen := Lib.hid (show kids.len = q + r.len by rw [hk.out, Fo.app_len, hq.out])
        cases r with
        | nil =>
          have hlt : ¬ (q : Int) < kids.len := by have := hlen.out; simp only [Fo.len] at this; omega
          have hdk : dn = kids := by have := hk.out; rw [Fo.app_nil] at this; exact this.symm
          subst hdk
          go_wp2_with fail
          go_ret
          have hme := hm.out
          subst hme
          exact ⟨A1, c1, rfl, own_mono HS.out (Nat.le_succ _), HB.out⟩
        | cons k1 l1 d1 mn1 mx1 r1 =>
          have hlt : (q : Int) < kids.len := by have := hlen.out; simp only [Fo.len] at this; omega
          have hq0 : (0 : Int) ≤ q := by omega
          have hk2 : kids = dn.app (.cons k1 l1 d1 mn1 mx1 r1) := hk.out
          obtain ⟨b0, o0, rfl⟩ := at_shape HA.out (by have := hlen.out; simp only [Fo.len] at this; omega)
          have h3 := HA.out.below HB.out
          rw [hk2] at h3
          obtain ⟨K1, c3, hcel, hc3, hc4, hat1⟩ := h3.nth hq.out
          obtain ⟨e0, e1, e2, e3, e4⟩ := hcel
          have hsz : d1.sz < n := by
            have h5 := congrArg Fo.sz hk2
            rw [Fo.app_sz] at h5
            have h6 := HN.out
            simp only [Fo.sz] at h5
            omega
          have hkk := Lib.hid (show kids = (dn.app (.cons k1 l1 d1 mn1 mx1 .nil)).app r1 by rw [hk2, Fo.app_assoc]; rfl)
          have hlab : (labF kids).length = (labF dn).length + (labF (.cons k1 l1 d1 mn1 mx1 .nil)).length + (labF r1).length := by rw [hkk.out, labF_app, labF_app, List.length_append, List.length_append]
          have hlk := HLL.out
          have hme := hm.out
          have HLA := Lib.hid (show labF (dn.app (.cons k1 l1 d1 mn1 mx1 .nil)) = labF dn ++ labF (.cons k1 l1 d1 mn1 mx1 .nil) from labF_app _ _)
          have HCALL := Lib.hid (IH.out ⟨k1, l1, K1, c3, mn1, mx1, d1⟩ X (wr.alloc (obj5 k1 l1 K1 d1.len c3 mn1 mx1)) hsz (Nd.ok.al ⟨hc3, hc4, hat1⟩ _) (by show (labF (.cons k1 l1 d1 mn1 mx1 .nil)).length ≤ 1000000; omega))
          unfold Nd.v at HCALL
          simp only at HCALL
          have HSB := Lib.hid (show Below wr.heap.size wr (wr.alloc (obj5 k1 l1 K1 d1.len c3 mn1 mx1)) from (Below.refl _ _).alloc (Nat.le_refl _) _)
          have hqq := Lib.hid (show (dn.app (.cons k1 l1 d1 mn1 mx1 .nil)).len = q + 1 by rw [Fo.app_len, hq.out]; rfl)
          have HSUM := Lib.hid (show m + (labF (.cons k1 l1 d1 mn1 mx1 .nil)).length = (labF (dn.app (.cons k1 l1 d1 mn1 mx1 .nil))).length by rw [HLA.out, List.length_append, ← hme])
          have hbd : m + (labF (.cons k1 l1 d1 mn1 mx1 .nil)).length ≤ 1000000 := by omega
          clear h3 hat1 hsz hk2 hlab hlk hme
          generalize labF (.cons k1 l1 d1 mn1 mx1 .nil) = ys at *
          have hmb : m + ys.length ≤ maxLen := by unfold maxLen; omega
          go_wp2_with (first
            | (go_at_call 43; (with_reducible refine (HCALL.out).mono ?_); rintro e w2 ⟨A2, c2, rfl, hown2, hb2⟩; have HO2 := Lib.hid (Reads.of_own hown2); have HB2 := Lib.hid (HSB.out.trans (hb2.mono HSB.out.size)); have HS2 := Lib.hid (own_below HS.out HB2.out); have HZ2 := Lib.hid (Nat.le_trans HZ.out HB2.out.size); clear hown2 hb2)
            | (refine wpList_append_reads _ Value.string (fun _ => rfl) 37 9 iS _ 16 Tryz.underlying37 hi hz0 hz1 hz2 rfl rfl (.tmp 23) (.tmp 25) rfl (w.heap.size + 1) _ m (labF dn) rfl HS2.out _ _ ys.length _ ys rfl HO2.out hmb (by omega) HZ2.out ?_; intro A5 n5 c5 w5 hn5 hc5 hown5 hb5; have HN5 := Lib.hid hn5; have HO5 := Lib.hid hown5; have HB5 := Lib.hid hb5; clear hown5 hb5 hn5))
          have hn5 := HN5.out.out
          exact ⟨⟨q + 1, _, r1, A5, n5, c5, hkk, hqq, by go_num, rfl, Lib.hid (by rw [hn5]; exact HSUM.out), by omega, Lib.hid (by rw [HLA.out]; exact HO5.out), Lib.hid ((HK.out.below HB2.out).at_below HB5.out (by omega)), Lib.hid (bt2 HB.out HB2.out HB5.out HB.out.size (by omega)), Lib.hid (Nat.le_trans HZ2.out HB5.out.size)⟩, by simp [RowKit.intOf] <;> omega⟩
end Go.Proofs.YtpaehicfndkliaaGreatDoor.De


/- The walks of 'Labels', of the document's 'Texts'. Condition: the path can be read; it has not too many labels. -/
namespace Go.Proofs.YtpaehicfndkliaaGreatDoor.De
open Go.RowKit Go.Lib Na Go.PN Pa
open Go.Sort (Holds putRow grow)

theorem below_sort {B g off n : Nat} {w : World} {d : Array (List UInt8)} {os : Array Obj} (hB : B ≤ g) (hBw : B ≤ w.heap.size) : Below B w (grow (putRow encStr (Go.Sort.ahead w n) g off d) os) := by
  refine ⟨rfl, rfl, rfl, ?_, fun k hk => ?_⟩
  · rw [Go.Sort.size_grow, Go.Sort.size_putRow]
    exact Nat.le_add_right _ _
  · rw [Go.Sort.heap_grow_old _ _ (by rw [Go.Sort.size_putRow]; exact Nat.lt_of_lt_of_le hk hBw)]
    show (w.heap.modify g _)[k]? = w.heap[k]?
    rw [Array.getElem?_modify, if_neg (by omega)]
theorem below_put {B g off q : Nat} {w : World} {d : Array (List UInt8)} (hB : B ≤ g) (hBw : B ≤ w.heap.size) : Below B w (putRow encStr (Go.Sort.ahead w q) g off d) := by
  have h := below_sort (B := B) (g := g) (off := off) (n := q) (w := w) (d := d) (os := #[]) hB hBw
  rwa [Go.Sort.grow_empty] at h
/-- A row of texts can be read. -/
def RdT (w : World) (ls : List (List UInt8)) (A : Option Addr) : Prop := 0 < ls.length → ∃ g o, A = some ⟨g, o, none⟩ ∧ g < w.heap.size ∧ ∀ j (h : j < ls.length), w.cell? ⟨g, o + j, none⟩ = some (encStr ls[j])
theorem RdT.below {w w' : World} {ls : List (List UInt8)} {A : Option Addr} (h : RdT w ls A) (hb : Below w.heap.size w w') : RdT w' ls A := fun h0 => by
  obtain ⟨g, o, e, hg, hc⟩ := h h0
  exact ⟨g, o, e, Nat.lt_of_lt_of_le hg hb.size, fun j hj => (hb.cell (p := ⟨g, o + j, none⟩) hg).trans (hc j hj)⟩
theorem RdT.of {w : World} {ls : List (List UInt8)} {A : Option Addr} (h : Reads w w.heap.size 1 A ls.length (ls.map encStr)) (hA : 0 < ls.length → ∃ g, A = some ⟨g, 0, none⟩) : RdT w ls A := fun h0 => by
  obtain ⟨g, rfl⟩ := hA h0
  obtain ⟨ad, e, hb, hc⟩ := h.2 h0
  injection e with e
  subst e
  refine ⟨g, 0, rfl, hb, fun j hj => ?_⟩
  have := hc j (encStr ls[j]) (by simp [hj])
  rw [add0] at this
  rwa [Nat.zero_add]
/-- A row of texts that can be read is handed back. -/
def LabP (w : World) (ls : List (List UInt8)) (e : Ending) (w' : World) : Prop := ∃ (A : Option Addr) (c : Nat), e = .returned (.slice A ls.length c) ∧ ls.length ≤ c ∧ RdT w' ls A ∧ Below w.heap.size w w'
abbrev bl (b : ByteArray) : List UInt8 := b.data.toList
theorem enc_bl (b : ByteArray) : encStr (bl b) = .string b := by
  show Value.string ⟨b.data.toList.toArray⟩ = _
  rw [Array.toArray_toList]
/-- The sort and the compaction of a row of texts of the call's own. -/
theorem sort_texts {w : World} {B : Nat} {A : Option Addr} {c : Nat} {xs : List ByteArray} (ho : w.ownsRow B 9 1 (.slice A xs.length c) xs.length (xs.map .string)) (h6 : xs.length ≤ 1000000) (hB : B ≤ w.heap.size) :
    Calls Tryz.prog 44 #[.slice A xs.length c] w fun e w' => e = .returned (.tuple #[]) ∧ Below B w w' ∧ (0 < xs.length → ∃ g, A = some ⟨g, 0, none⟩) ∧
      Calls Tryz.prog 45 #[.slice A xs.length c] w' fun e w2 => ∃ (c2 : Nat), e = .returned (.slice A (lbl (xs.map bl)).length c2) ∧ (lbl (xs.map bl)).length ≤ c2 ∧ Reads w2 w2.heap.size 1 A (lbl (xs.map bl)).length ((lbl (xs.map bl)).map encStr) ∧ Below B w' w2 := by
  by_cases h0 : xs.length = 0
  · have hx : xs = [] := List.eq_nil_of_length_eq_zero h0
    subst hx
    have hl0 : lbl (([] : List ByteArray).map bl) = [] := List.eq_nil_of_length_eq_zero (by have := lbl_len (([] : List ByteArray).map bl); simp only [List.map_nil, List.length_nil] at this ⊢; omega)
    rw [hl0]
    refine (Tryz.slices_Sort_string_none A c w).mono fun e w' ⟨h1, h2⟩ => ⟨h1, ?_, fun h => absurd h (Nat.lt_irrefl _), ?_⟩
    · subst h2; exact Below.refl _ _
    · refine (Tryz.slices_Compact_string_empty A c w').mono fun e w2 ⟨h3, h4⟩ => ⟨c, h3, Nat.zero_le _, ?_, ?_⟩
      · exact ⟨rfl, fun h => absurd h (Nat.lt_irrefl _)⟩
      · subst h4; exact Below.refl _ _
  · rcases ho.2 with ⟨_, e⟩ | ⟨g, cap, cur, e, h2, h3, h4, h5, h6', h7⟩
    · omega
    · injection e with e1 e2 e3
      subst e1 e3
      have hg : g < w.heap.size := (Array.getElem?_eq_some_iff.1 h3).1
      have hl : (xs.map bl).length = xs.length := List.length_map _
      have hH : Holds encStr w g 0 (xs.map bl).toArray := by
        intro j hj
        have hj' : j < xs.length := by simpa using hj
        refine ⟨?_, ho.frozenAt _⟩
        have h8 := ho.cells (g := g) rfl j (.string xs[j]) (by simp [hj'])
        rw [add0] at h8
        rw [Nat.zero_add, h8]
        have : (xs.map bl).toArray[j]! = bl xs[j] := by simp [hj']
        rw [this, enc_bl]
      have hsrt := Tryz.slices_Sort_string g 0 c (xs.map bl) w hH hg (by rw [hl]; omega)
      rw [hl] at hsrt
      refine hsrt.mono fun e w' ⟨he, n, os, hw⟩ => ⟨he, ?_, fun _ => ⟨g, rfl⟩, ?_⟩
      · rw [hw]; exact below_sort h2 hB
      · have hsl : ((xs.map bl).mergeSort leB).length = xs.length := by rw [(List.mergeSort_perm _ _).length_eq, hl]
        have hsz : (((xs.map bl).mergeSort leB).toArray).size = (xs.map bl).toArray.size := by simp [(List.mergeSort_perm _ _).length_eq]
        have hH2 : Holds encStr w' g 0 ((xs.map bl).mergeSort leB).toArray := by
          rw [hw]
          exact Go.Sort.holds_grow encStr _ _ _ _ _ (by rw [Go.Sort.size_putRow]; exact hg) (Go.Sort.holds_putRow encStr _ g 0 (xs.map bl).toArray _ (Go.Sort.holds_ahead encStr w n g 0 _ hH) hsz)
        have hg2 : g < w'.heap.size := by rw [hw, Go.Sort.size_grow, Go.Sort.size_putRow]; exact Nat.lt_of_lt_of_le hg (Nat.le_add_right _ _)
        have hB2 : B ≤ w'.heap.size := by omega
        have hcm := Tryz.slices_Compact_string g 0 c ((xs.map bl).mergeSort leB) w' hH2 (by rw [hsl]; omega) (by rw [hsl]; exact h4)
        rw [hsl] at hcm
        have hll := lbl_len (xs.map bl)
        rw [hl] at hll
        refine hcm.mono fun e w2 ⟨he2, q, hw2⟩ => ⟨c, he2, Nat.le_trans hll h4, ?_, by rw [hw2]; exact below_put h2 hB2⟩
        refine ⟨by simp, fun _ => ⟨⟨g, 0, none⟩, rfl, ?_, fun j u hj => ?_⟩⟩
        · rw [hw2, Go.Sort.size_putRow]; exact hg2
        · have hpad : (Lib.compact ((xs.map bl).mergeSort leB) ++ List.replicate (xs.length - (Lib.compact ((xs.map bl).mergeSort leB)).length) ([] : List UInt8)).toArray.size = (((xs.map bl).mergeSort leB).toArray).size := by
            have : (Lib.compact ((xs.map bl).mergeSort leB)).length ≤ xs.length := hll
            simp [hsl]; omega
          have hH3 := Go.Sort.holds_putRow encStr (Go.Sort.ahead w' q) g 0 ((xs.map bl).mergeSort leB).toArray _ (Go.Sort.holds_ahead encStr w' q g 0 _ hH2) hpad
          have hjl : j < (lbl (xs.map bl)).length := by
            rw [List.getElem?_map] at hj
            cases hq : (lbl (xs.map bl))[j]? with
            | none => rw [hq] at hj; cases hj
            | some v => exact (List.getElem?_eq_some_iff.1 hq).1
          rw [add0, hw2]
          have h9 := (hH3 j (by rw [hpad]; simp [hsl]; omega)).1
          rw [Nat.zero_add] at h9
          rw [h9, ← hj]
          have hjl2 : j < (Lib.compact ((xs.map bl).mergeSort leB)).length := hjl
          rw [List.getElem?_map, List.getElem?_eq_getElem hjl]
          simp only [Option.map_some]
          congr 2
          rw [getElem!_pos _ j (by rw [hpad]; simp [hsl]; omega)]
          simp only [List.getElem_toArray]
          rw [List.getElem_append_left hjl2]
          rfl
def labR (k : Int) (l : ByteArray) (d : Fo) (mn mx : Int) : List (List UInt8) := if knownB k l d mn mx = true then lbl ((labF (.cons k l d mn mx .nil)).map bl) else []
set_option maxRecDepth 100000 in
set_option maxHeartbeats 4000000 in
theorem Labels_any (a : Nd) (X : List Nat) (w : World) (h : a.ok w X) (hbd : Bd (a.fo .nil)) (hll : (labF (a.fo .nil)).length ≤ 1000000) : Calls Tryz.prog 17 #[a.v] w (LabP w (labR a.k a.l a.kids a.mn a.mx)) := by
  have HB := Lib.hid ((Below.refl _ w).alloc (Nat.le_refl _) (obj5 a.k a.l a.A a.kids.len a.c a.mn a.mx))
  have HK := Lib.hid (known_any a X (w.alloc (obj5 a.k a.l a.A a.kids.len a.c a.mn a.mx)) (h.al _) hbd)
  have HY := Lib.hid (Bx.new w (.int .i64 a.k) (.string a.l) (.slice a.A a.kids.len a.c) (.int .i64 a.mn) (.int .i64 a.mx) 24)
  cases hk : knownB a.k a.l a.kids a.mn a.mx
  · rw [hk] at HK
    have HT := Lib.hid (show labR a.k a.l a.kids a.mn a.mx = [] by unfold labR; rw [hk]; rfl)
    rw [HT.out]
    unfold Nd.v at *
    clear h hbd hk HT hll
    go_enter Tryz.func17, Tryz.ntmps17
    go_wp2_with (first | (go_at_call 38; (with_reducible refine (HK.out).mono ?_); rintro e w2 ⟨rfl, hb2⟩; have HB2 := Lib.hid (HB.out.trans (hb2.mono HB.out.size)); clear hb2))
    go_ret
    exact ⟨none, 0, rfl, Nat.le_refl _, fun h => absurd h (Nat.lt_irrefl _), HB2.out⟩
  · rw [hk] at HK
    have HT := Lib.hid (show labR a.k a.l a.kids a.mn a.mx = lbl ((labF (a.fo .nil)).map bl) by unfold labR; rw [hk]; rfl)
    rw [HT.out]
    have HC := Lib.hid (fun (w1 : World) (hb : Below w.heap.size w w1) => labels_n (a.kids.sz + 1) a X w1 (Nat.lt_succ_self _) (h.below hb) hll)
    have HLL := Lib.hid hll
    unfold Nd.v at *
    clear h hbd hk HT hll
    generalize labF (a.fo .nil) = xs at *
    go_enter Tryz.func17, Tryz.ntmps17
    go_wp2_with (first
      | (go_at_call 38; (with_reducible refine (HK.out).mono ?_); rintro e w2 ⟨rfl, hb2⟩; have HB2 := Lib.hid (HB.out.trans (hb2.mono HB.out.size)); obtain ⟨⟨x0, x1, x2, x3, x4⟩, y0, y1, y2, y3, y4⟩ := bx_all (HY.out.below hb2); clear hb2)
      | (go_at_call 43; (with_reducible refine (HC.out _ HB2.out).mono ?_); rintro e w3 ⟨A3, c3, rfl, hown3, hb3⟩; have HB3 := Lib.hid (HB2.out.trans (hb3.mono HB2.out.size)); have HST := Lib.hid (sort_texts hown3 HLL.out hb3.size); have HZ3 := Lib.hid hb3.size; clear hown3 hb3)
      | (go_at_call 44; (with_reducible refine (HST.out).mono ?_); rintro e w4 ⟨rfl, hb4, hfm, hcm⟩; have HFM := Lib.hid hfm; have HCM := Lib.hid hcm; have HB4 := Lib.hid (bt HB3.out hb4 HB2.out.size); clear hcm hb4 hfm)
      | (go_at_call 45; (with_reducible refine (HCM.out).mono ?_); rintro e w5 ⟨c5, rfl, hc5, hr5, hb5⟩; have HR5 := Lib.hid hr5; have HB5 := Lib.hid (bt HB4.out hb5 HB2.out.size); clear hr5 hb5))
    go_ret
    exact ⟨A3, c5, rfl, hc5, RdT.of HR5.out (fun h => HFM.out (by have := lbl_len (xs.map bl); rw [List.length_map] at this; omega)), HB5.out⟩
theorem below_dN (w : World) (n : Nat) : Below w.heap.size w (w.drewN n) := by
  induction n with
  | zero => exact Below.refl _ _
  | succ n ih => exact ih.drew
set_option maxRecDepth 100000 in
set_option maxHeartbeats 8000000 in
/-- Two rows of the same texts are told to be the same. -/
theorem texts_same (A1 A2 : Option Addr) (c1 c2 : Nat) (ls : List (List UInt8)) (w : World) (h1 : RdT w ls A1) (h2 : RdT w ls A2) (hc1 : ls.length ≤ c1) (hc2 : ls.length ≤ c2) (h6 : ls.length ≤ 1000000) :
    Calls Tryz.prog 19 #[.slice A1 ls.length c1, .slice A2 ls.length c2] w fun e w' => e = .returned (.bool true) ∧ Below w.heap.size w w' := by
  have H1 := Lib.hid h1
  have H2 := Lib.hid h2
  obtain ⟨n, hn⟩ : ∃ n, ls.length = n := ⟨_, rfl⟩
  have HN := Lib.hid hn
  rw [hn] at h6 hc1 hc2 ⊢
  have tn : ((n : Int) != (n : Int)) = false := by simp
  clear h1 h2 hn
  go_enter Tryz.func19, Tryz.ntmps19
  go_wp2_with fail
  go_loopw [5] (fun iv wr => ∃ q : Nat, iv = .int .i64 q ∧ q ≤ n ∧ Hid (Below w.heap.size w wr)) (fun iv _ => n - (RowKit.intOf iv).toNat)
  case atStart => exact ⟨0, rfl, Nat.zero_le _, Lib.hid (Below.refl _ _)⟩
  case round =>
    obtain ⟨q, rfl, hqn, HB⟩ := hrel
    by_cases hq : q < n
    · have hlt : (q : Int) < (n : Int) := by omega
      have hq0 : (0 : Int) ≤ q := by omega
      obtain ⟨g1, o1, rfl, hg1, hx1⟩ := H1.out.below HB.out (by rw [HN.out]; omega)
      obtain ⟨g2, o2, rfl, hg2, hx2⟩ := H2.out.below HB.out (by rw [HN.out]; omega)
      have x1 := hx1 q (by rw [HN.out]; exact hq)
      have x2 := hx2 q (by rw [HN.out]; exact hq)
      obtain ⟨t, ht⟩ : ∃ t : ByteArray, (⟨(ls[q]'(by rw [HN.out]; exact hq)).toArray⟩ : ByteArray) = t := ⟨_, rfl⟩
      have x1' : wr.cell? ⟨g1, o1 + q, none⟩ = some (.string t) := by rw [← ht]; exact x1
      have x2' : wr.cell? ⟨g2, o2 + q, none⟩ = some (.string t) := by rw [← ht]; exact x2
      have te : (t.toList != t.toList) = false := by simp
      clear hx1 hx2 x1 x2 ht
      go_wp2_with fail
      go_quiet (fail)
      go_wp2_with fail
      exact ⟨⟨q + 1, by go_num, by omega, Lib.hid (HB.out.trans ((below_dN _ _).mono HB.out.size))⟩, by simp [RowKit.intOf] <;> omega⟩
    · have hlt : ¬ (q : Int) < (n : Int) := by omega
      go_wp2_with fail
      go_ret
      exact ⟨rfl, HB.out⟩
end Go.Proofs.YtpaehicfndkliaaGreatDoor.De
