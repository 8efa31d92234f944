import Derived.Test.YtpaehicfndkliaaGreatDoorDr
import Derived.Laws.OwnMore
import Derived.Sort.Walk0
import Derived.Test.YtpaehicfndkliaaGreatDoorHd
import Derived.Deep.RegionLaw

/- Plain facts: a text put into a row of texts in order. No condition. -/
namespace Go.Proofs.YtpaehicfndkliaaGreatDoor.De

theorem le_rf (x : List UInt8) : leB x x = true := by
  simp only [leB, decide_eq_true_eq]
  exact List.le_refl x
theorem lt_tr {a b c : List UInt8} (h1 : Lt a b) (h2 : Lt b c) : Lt a c := by
  refine ⟨le_tr _ _ _ h1.1 h2.1, fun e => ?_⟩
  subst e
  exact h1.2 (le_an h1.1 h2.1)
theorem ins_spec {zs : List (List UInt8)} (hs : zs.Pairwise Lt) (x : List UInt8) (m : Nat) (hm : m ≤ zs.length) (hhi : ∀ j (h : j < zs.length), m ≤ j → leB zs[j] x = false)
    (hlo : m = 0 ∨ ∃ y, zs[m - 1]? = some y ∧ leB y x = true ∧ y ≠ x) :
    (zs.take m ++ x :: zs.drop m).Pairwise Lt ∧ ∀ z, z ∈ zs.take m ++ x :: zs.drop m ↔ z ∈ zs ∨ z = x := by
  have hsp : (zs.take m ++ zs.drop m).Pairwise Lt := by rw [List.take_append_drop]; exact hs
  rw [List.pairwise_append] at hsp
  obtain ⟨h1, h2, h3⟩ := hsp
  have hd : ∀ y ∈ zs.drop m, Lt x y := by
    intro y hy
    obtain ⟨j, hj, rfl⟩ := List.getElem_of_mem hy
    rw [List.getElem_drop]
    have hmj : m + j < zs.length := by rw [List.length_drop] at hj; omega
    have h4 := hhi (m + j) hmj (by omega)
    have h5 := le_to zs[m + j] x
    rw [h4, Bool.false_or] at h5
    refine ⟨h5, fun e => ?_⟩
    rw [← e, le_rf] at h4
    cases h4
  have ht : ∀ y ∈ zs.take m, Lt y x := by
    intro y hy
    obtain ⟨j, hj, rfl⟩ := List.getElem_of_mem hy
    rw [List.length_take] at hj
    rw [List.getElem_take]
    rcases hlo with rfl | ⟨y, hy, h5, h6⟩
    · omega
    · rw [List.getElem?_eq_getElem (by omega)] at hy
      injection hy with hy
      subst hy
      by_cases hj2 : j = m - 1
      · subst hj2; exact ⟨h5, h6⟩
      · exact lt_tr (List.pairwise_iff_getElem.1 hs j (m - 1) (by omega) (by omega) (by omega)) ⟨h5, h6⟩
  refine ⟨?_, fun z => ?_⟩
  · rw [List.pairwise_append]
    refine ⟨h1, List.pairwise_cons.2 ⟨hd, h2⟩, fun a ha b hb => ?_⟩
    rcases List.mem_cons.1 hb with rfl | hb
    · exact ht a ha
    · exact h3 a ha b hb
  · rw [List.mem_append, List.mem_cons]
    constructor
    · rintro (h | rfl | h)
      · exact Or.inl (List.mem_of_mem_take h)
      · exact Or.inr rfl
      · exact Or.inl (List.mem_of_mem_drop h)
    · rintro (h | rfl)
      · rw [← List.take_append_drop m zs, List.mem_append] at h
        rcases h with h | h
        · exact Or.inl h
        · exact Or.inr (Or.inr h)
      · exact Or.inr (Or.inl rfl)
/-- A row while a place is made in it: from place k on all have gone one on. -/
def Gap (zs : List ByteArray) (k : Nat) (L : List ByteArray) : Prop := L.length = zs.length + 1 ∧ (∀ j, j < k → L[j]? = zs[j]?) ∧ (∀ j, k < j → L[j]? = zs[j - 1]?)
theorem Gap.start (zs : List ByteArray) (y : ByteArray) : Gap zs zs.length (zs ++ [y]) := by
  refine ⟨by simp, fun j hj => by rw [List.getElem?_append_left hj], fun j hj => ?_⟩
  rw [List.getElem?_eq_none (by simp; omega), List.getElem?_eq_none (by omega)]
theorem Gap.step {zs L : List ByteArray} {k : Nat} {y : ByteArray} (h : Gap zs (k + 1) L) (hk : k < zs.length) (hy : zs[k]? = some y) : Gap zs k (L.set (k + 1) y) := by
  obtain ⟨h1, h2, h3⟩ := h
  refine ⟨by rw [List.length_set, h1], fun j hj => ?_, fun j hj => ?_⟩
  · rw [List.getElem?_set_ne (by omega)]; exact h2 j (by omega)
  · by_cases e : j = k + 1
    · subst e
      rw [List.getElem?_set_self (by omega)]
      exact hy.symm
    · rw [List.getElem?_set_ne (by omega)]; exact h3 j (by omega)
theorem Gap.done {zs L : List ByteArray} {k : Nat} (h : Gap zs k L) (hk : k ≤ zs.length) (x : ByteArray) : L.set k x = zs.take k ++ x :: zs.drop k := by
  obtain ⟨h1, h2, h3⟩ := h
  apply List.ext_getElem?
  intro j
  have hl : (zs.take k).length = k := by rw [List.length_take]; omega
  by_cases h4 : j < k
  · rw [List.getElem?_set_ne (by omega), h2 j h4, List.getElem?_append_left (by omega), List.getElem?_take, if_pos h4]
  · by_cases h5 : j = k
    · subst h5
      rw [List.getElem?_set_self (by omega), List.getElem?_append_right (by omega), hl, Nat.sub_self]
      rfl
    · rw [List.getElem?_set_ne (by omega), h3 j (by omega), List.getElem?_append_right (by omega), hl]
      obtain ⟨d, rfl⟩ : ∃ d, j = k + 1 + d := ⟨j - k - 1, by omega⟩
      rw [show k + 1 + d - k = d + 1 by omega, List.getElem?_cons_succ, List.getElem?_drop]
      congr 1
      omega
end Go.Proofs.YtpaehicfndkliaaGreatDoor.De


/- The walk of the document's 'SortTexts'. Condition: the row can be read; it is not too long. -/
namespace Go.Proofs.YtpaehicfndkliaaGreatDoor.De
open Go.RowKit Go.Lib Na Go.PN Pa

/-- A row of texts can be read. -/
def RdS (w : World) (xs : List ByteArray) (A : Option Addr) : Prop := 0 < xs.length → ∃ g o, A = some ⟨g, o, none⟩ ∧ g < w.heap.size ∧ ∀ j (h : j < xs.length), w.cell? ⟨g, o + j, none⟩ = some (.string xs[j])
theorem RdS.below {w w' : World} {xs : List ByteArray} {A : Option Addr} (h : RdS w xs A) (hb : Below w.heap.size w w') : RdS w' xs A := fun h0 => by
  obtain ⟨g, o, e, hg, hc⟩ := h h0
  exact ⟨g, o, e, Nat.lt_of_lt_of_le hg hb.size, fun j hj => (hb.cell (p := ⟨g, o + j, none⟩) hg).trans (hc j hj)⟩
theorem RdS.own {w : World} {B c : Nat} {xs : List ByteArray} {A : Option Addr} (h : w.ownsRow B 9 1 (.slice A xs.length c) xs.length (xs.map .string)) : RdS w xs A := fun h0 => by
  have h' := h
  rcases h.2 with ⟨_, e⟩ | ⟨g, cap, cur, e, h2, h3, h4, h5, h6, h7⟩
  · omega
  · injection e with e1 e2 e3
    subst e1 e3
    refine ⟨g, 0, rfl, (Array.getElem?_eq_some_iff.1 h3).1, fun j hj => ?_⟩
    rw [Nat.zero_add, h'.cellAt j (by omega)]
    simp [hj]
theorem RdS.rdt {w : World} {xs : List ByteArray} {A : Option Addr} (h : RdS w xs A) : RdT w (xs.map bl) A := fun h0 => by
  obtain ⟨g, o, e, hg, hc⟩ := h (by rw [List.length_map] at h0; exact h0)
  refine ⟨g, o, e, hg, fun j hj => ?_⟩
  rw [hc j (by rw [List.length_map] at hj; exact hj)]
  rw [List.getElem_map, enc_bl]
/-- An owned row's own block. -/
theorem own_at {w : World} {B n c size : Nat} {e : TypeId} {cs : List Value} {A : Option Addr} (h : w.ownsRow B e size (.slice A n c) n cs) (hn : 1 ≤ n) : ∃ g, A = some ⟨g, 0, none⟩ ∧ B ≤ g ∧ n ≤ c ∧ c ≤ 9223372036854775807 := by
  rcases h.2 with ⟨_, e⟩ | ⟨g, cap, cur, e, h2, h3, h4, h5, h6, h7⟩
  · omega
  · injection e with e1 e2 e3
    subst e1 e3
    exact ⟨g, rfl, h2, h4, h5⟩
theorem bless (a b : ByteArray) : Op.bytesLess a.toList b.toList = (leB (bl a) (bl b) && !(a.toList == b.toList)) := by
  rw [bytesLess_eq, ByteArray.toList_eq, ByteArray.toList_eq]
  show decide (bl a < bl b) = (decide (bl a ≤ bl b) && !(bl a == bl b))
  rw [Bool.eq_iff_iff]
  simp only [decide_eq_true_eq, Bool.and_eq_true, Bool.not_eq_true', beq_eq_false_iff_ne]
  constructor
  · intro h
    refine ⟨List.le_of_lt h, fun e => ?_⟩
    rw [e] at h
    exact List.lt_irrefl _ h
  · rintro ⟨h1, h2⟩
    rcases Classical.em (bl a < bl b) with h | h
    · exact h
    · exact absurd (List.le_antisymm h1 (List.not_lt.1 h)) h2
theorem tl_eq (a b : ByteArray) : (a.toList == b.toList) = (bl a == bl b) := by rw [ByteArray.toList_eq, ByteArray.toList_eq]
/-- What stands while texts are put in order. -/
structure Srt (xs : List ByteArray) (q : Nat) (zs : List ByteArray) : Prop where
  srt : (zs.map bl).Pairwise Lt
  mem : ∀ z, z ∈ zs.map bl ↔ z ∈ (xs.take q).map bl
  len : zs.length ≤ q
theorem Srt.init (xs : List ByteArray) : Srt xs 0 [] := ⟨.nil, fun z => by simp, Nat.le_refl _⟩
theorem Srt.same {xs zs : List ByteArray} {q k : Nat} {x : ByteArray} (h : Srt xs q zs) (hx : xs[q]? = some x) (hk : zs[k]? = some x) : Srt xs (q + 1) zs := by
  refine ⟨h.srt, fun z => ?_, Nat.le_succ_of_le h.len⟩
  rw [List.take_add_one, hx, List.map_append, List.mem_append, ← h.mem]
  simp only [Option.toList_some, List.map_cons, List.map_nil, List.mem_singleton]
  constructor
  · exact Or.inl
  · rintro (h1 | rfl)
    · exact h1
    · exact List.mem_map.2 ⟨x, List.mem_of_getElem? hk, rfl⟩
theorem Srt.put {xs zs L : List ByteArray} {q k : Nat} {x : ByteArray} (h : Srt xs q zs) (hx : xs[q]? = some x) (hk : k ≤ zs.length) (hhi : ∀ j y, k ≤ j → zs[j]? = some y → leB (bl y) (bl x) = false)
    (hlo : k = 0 ∨ ∃ y, zs[k - 1]? = some y ∧ leB (bl y) (bl x) = true ∧ bl y ≠ bl x) (hL : L = zs.take k ++ x :: zs.drop k) : Srt xs (q + 1) L := by
  subst hL
  have hs := ins_spec h.srt (bl x) k (by rw [List.length_map]; exact hk) (fun j hj hkj => by
    rw [List.length_map] at hj
    rw [List.getElem_map]
    exact hhi j _ hkj (List.getElem?_eq_getElem hj)) (by
    rcases hlo with h0 | ⟨y, h1, h2, h3⟩
    · exact Or.inl h0
    · exact Or.inr ⟨bl y, by rw [List.getElem?_map, h1]; rfl, h2, h3⟩)
  have e : (zs.take k ++ x :: zs.drop k).map bl = (zs.map bl).take k ++ bl x :: (zs.map bl).drop k := by rw [List.map_append, List.map_cons, List.map_take, List.map_drop]
  refine ⟨by rw [e]; exact hs.1, fun z => ?_, ?_⟩
  · rw [e, hs.2, List.take_add_one, hx, List.map_append, List.mem_append, ← h.mem]
    simp
  · have := h.len
    simp only [List.length_append, List.length_take, List.length_cons, List.length_drop]
    omega
theorem dN_size (w : World) (n : Nat) : (w.drewN n).heap.size = w.heap.size := by simp
/-- A row of one text that has just been laid. -/
theorem rd_one (V : World) (x : ByteArray) (T : TypeId) (g : Nat) (hg : V.heap.size = g) : Reads (V.alloc (.cells #[.string x] T)) (g + 1) 1 (some ⟨g, 0, none⟩) 1 ([x].map .string) := by
  subst hg
  refine ⟨rfl, fun _ => ⟨_, rfl, by show V.heap.size < _; omega, fun j u hj => ?_⟩⟩
  match j, hj with
  | 0, hj =>
    injection hj with hj
    subst hj
    go_simp
  | _ + 1, hj => cases hj
def Lo (zs : List ByteArray) (k : Nat) (x : ByteArray) : Prop := k = 0 ∨ ∃ y, zs[k - 1]? = some y ∧ leB (bl y) (bl x) = true ∧ bl y ≠ bl x
theorem ret_sub {k : Nat} (h : 0 < k) : Value.int .i64 ((k : Int) - 1) = .int .i64 ((k - 1 : Nat) : Int) := by congr 1; omega
set_option maxRecDepth 100000 in
set_option maxHeartbeats 16000000 in
/-- Texts put in order, each once. -/
theorem sortTexts_any (A : Option Addr) (c : Nat) (xs : List ByteArray) (w : World) (hr : RdS w xs A) (hc : xs.length ≤ c) (h6 : xs.length ≤ 1000000) :
    Calls Tryz.prog 51 #[.slice A xs.length c] w fun e w' => ∃ zs : List ByteArray, zs.map bl = lbl (xs.map bl) ∧ StrsP w zs e w' := by
  obtain ⟨iS, hi, hz0, hz1, hz2⟩ := iStr
  have HR := Lib.hid hr
  obtain ⟨n, hn⟩ : ∃ n, xs.length = n := ⟨_, rfl⟩
  have HN := Lib.hid hn
  rw [hn] at h6 hc ⊢
  clear hr hn
  have HS0 := Lib.hid (show w.ownsRow w.heap.size 9 1 (.slice none 0 0) 0 (([] : List ByteArray).map .string) from ⟨rfl, Or.inl ⟨rfl, rfl⟩⟩)
  go_enter Tryz.func51, Tryz.ntmps51
  go_wp2_with fail
  go_loopw [3, 4] (fun lv iv wr => ∃ (q : Nat) (zs : List ByteArray) (A1 : Option Addr) (m c1 : Nat), iv = .int .i64 q ∧ lv = .slice A1 m c1 ∧ Hid (m = zs.length) ∧ q ≤ n ∧ m ≤ q ∧ Hid (Srt xs q zs) ∧ Hid (wr.ownsRow w.heap.size 9 1 (.slice A1 m c1) m (zs.map .string)) ∧ Hid (Below w.heap.size w wr)) (fun _ iv _ => n - (RowKit.intOf iv).toNat)
  case atStart => exact ⟨0, [], none, 0, 0, rfl, rfl, Lib.hid rfl, Nat.zero_le _, Nat.le_refl _, Lib.hid (Srt.init xs), HS0, Lib.hid (Below.refl _ _)⟩
  case round =>
    obtain ⟨q, zs, A1, m, c1, rfl, rfl, HM, hqn, hmq, HT, HO, HB⟩ := hrel
    clear HS0
    by_cases hq : q < n
    · have hlt : (q : Int) < (n : Int) := by omega
      have hq0 : (0 : Int) ≤ q := by omega
      obtain ⟨g1, o1, rfl, hg1, hx1⟩ := HR.out (by rw [HN.out]; omega)
      have hqx : q < xs.length := by rw [HN.out]; exact hq
      obtain ⟨x, hx⟩ : ∃ x, xs[q] = x := ⟨_, rfl⟩
      have HX := Lib.hid (show xs[q]? = some x by rw [List.getElem?_eq_getElem hqx, hx])
      have HXQ := Lib.hid (fun (w' : World) (hb : Below w.heap.size w w') => (show w'.cell? ⟨g1, o1 + q, none⟩ = some (.string x) by
        rw [← hx]; exact (hb.cell (p := ⟨g1, o1 + q, none⟩) hg1).trans (hx1 q hqx)))
      have hmb : m + 1 ≤ maxLen := by unfold maxLen; omega
      clear hx1 hx hqx
      generalize wr = w1 at *
      go_wp2_with fail
      go_loopw [5] (fun kv w2 => ∃ k : Nat, kv = .int .i64 k ∧ k ≤ m ∧ Hid (∀ j y, k ≤ j → zs[j]? = some y → leB (bl y) (bl x) = false) ∧ Hid (Below w1.heap.size w1 w2)) (fun kv _ => (RowKit.intOf kv).toNat)
      case atStart => exact ⟨m, rfl, Nat.le_refl _, Lib.hid (fun j y h1 h2 => by have := HM.out; rw [List.getElem?_eq_none (by omega)] at h2; cases h2), Lib.hid (Below.refl _ _)⟩
      case round =>
        obtain ⟨k, rfl, hkm, HHI, HB2⟩ := hrel
        generalize wr = w2 at *
        have HO2 := Lib.hid (own_below HO.out HB2.out)
        have HB3 := Lib.hid (bt HB.out HB2.out HB.out.size)
        have xq := HXQ.out w2 HB3.out
        have hg12 : g1 < w2.heap.size := cell_lt xq
        have HSB := Lib.hid (fun (a : Nat) (o : Obj) => (show Below w2.heap.size w2 ((w2.drewN a).alloc o) from (below_dN w2 a).alloc (below_dN w2 a).size o))
        have HSZ := Lib.hid (fun (a : Nat) (o : Obj) => (show w.heap.size ≤ ((w2.drewN a).alloc o).heap.size from Nat.le_trans HB3.out.size (HSB.out a o).size))
        clear HO HB
        by_cases hk : k = 0
        · subst hk
          have HLO := Lib.hid (show Lo zs 0 x from Or.inl rfl)
          go_wp2_with fail
          go_quiet (fail)
          go_wp2_with fail
          go_quiet (fail)
          go_wp2_with (refine wpList_append_reads _ Value.string (fun _ => rfl) 37 9 iS _ 16 Tryz.underlying37 hi hz0 hz1 hz2 rfl rfl (.tmp 45) (.tmp 46) rfl (w.heap.size) _ m zs rfl (own_below HO2.out (HSB.out _ _)) _ _ 1 _ [⟨#[]⟩] rfl (rd_one _ _ _ _ (dN_size _ _)) hmb (by omega) (HSZ.out _ _) ?_; intro A5 n5 c5 w5 hn5 hc5 hown5 hb5; have HN5 := Lib.hid hn5; have HO5 := Lib.hid hown5; have HB5 := Lib.hid (bt (bt HB3.out (HSB.out _ _) HB3.out.size) hb5 (Nat.le_refl _)); clear hown5 hb5 hn5; refine Hid.out ?_)
          refine Lib.hid ?_
          obtain rfl := HN5.out.out
          have HG0 := Lib.hid (show Gap zs m (zs ++ [⟨#[]⟩]) by have := Gap.start zs ⟨#[]⟩; rw [← HM.out] at this; exact this)
          clear HN5 HO2 HB2 HB3 HSB HSZ
          go_wp2_with fail
          go_loopw [6] (fun kv w6 => ∃ (k2 : Nat) (L : List ByteArray), kv = .int .i64 k2 ∧ 0 ≤ k2 ∧ k2 ≤ m ∧ Hid (Gap zs k2 L) ∧ Hid (w6.ownsRow w.heap.size 9 1 (.slice A5 (m + 1) c5) (m + 1) (L.map .string)) ∧ Hid (Below w.heap.size w w6)) (fun kv _ => (RowKit.intOf kv - 0).toNat)
          case atStart => exact ⟨m, _, rfl, hkm, Nat.le_refl _, HG0, HO5, HB5⟩
          case round =>
            obtain ⟨k2, L, rfl, hk2a, hk2b, HG, HO6, HB6⟩ := hrel
            obtain ⟨g5, rfl, hg5, hmc5, hcm5⟩ := own_at HO6.out (by omega)
            have hL := Lib.hid HG.out.1
            have hm := Lib.hid HM.out
            by_cases hlt2 : 0 < k2
            · obtain ⟨k3, rfl⟩ : ∃ k3, k2 = k3 + 1 := ⟨k2 - 1, by omega⟩
              obtain ⟨y, hy⟩ : ∃ y, zs[k3]? = some y := ⟨_, List.getElem?_eq_getElem (by have := hm.out; omega)⟩
              have y0 : wr.cell? ⟨g5, k3, none⟩ = some (.string y) := by
                rw [HO6.out.cellAt k3 (by omega), List.getElem?_map, HG.out.2.1 k3 (by omega), hy]; rfl
              obtain ⟨z, hz⟩ : ∃ z, L[k3 + 1]? = some z := ⟨_, List.getElem?_eq_getElem (by have := hL.out; have := hm.out; omega)⟩
              have y1 : wr.cell? ⟨g5, k3 + 1, none⟩ = some (.string z) := by
                rw [HO6.out.cellAt (k3 + 1) (by omega), List.getElem?_map, hz]; rfl
              have f1 : wr.frozen? ⟨g5, k3 + 1, none⟩ = false := HO6.out.frozenAt _
              have hg5z : g5 < wr.heap.size := cell_lt y0
              have HG2 := Lib.hid (HG.out.step (by have := hm.out; omega) hy)
              have HO7 := Lib.hid ((HO6.out.stored (k3 + 1) (.string y)).1)
              have HB7 := Lib.hid (HB6.out.setCell (p := ⟨g5, k3 + 1, none⟩) hg5 (.string y))
              have hk30 : (0 : Int) ≤ k3 := by omega
              have hlt3 : 0 < k3 + 1 := hlt2
              have hlti : (0 : Int) < (k3 : Int) + 1 := by omega
              have hc7 : k3 + 1 < c5 := by omega
              clear hy hz
              go_wp2_with fail
              exact ⟨⟨k3, _, by go_num, by omega, by omega, HG2, Lib.hid (by rw [List.map_set]; exact HO7.out), HB7⟩, by simp [RowKit.intOf] <;> omega⟩
            · obtain rfl : 0 = k2 := by omega
              have f1 : wr.frozen? ⟨g5, 0, none⟩ = false := HO6.out.frozenAt _
              obtain ⟨z, hz⟩ : ∃ z, L[0]? = some z := ⟨_, List.getElem?_eq_getElem (by have := hL.out; have := hm.out; omega)⟩
              have y1 : wr.cell? ⟨g5, 0, none⟩ = some (.string z) := by
                rw [HO6.out.cellAt 0 (by omega), List.getElem?_map, hz]; rfl
              have xq := HXQ.out wr HB6.out
              have hg5z : g5 < wr.heap.size := cell_lt y1
              have hg1z : g1 < wr.heap.size := cell_lt xq
              have HG2 := Lib.hid (HG.out.done (by have := hm.out; omega) x)
              have HO7 := Lib.hid ((HO6.out.stored 0 (.string x)).1)
              have HB7 := Lib.hid (HB6.out.setCell (p := ⟨g5, 0, none⟩) hg5 (.string x))
              have HT2 := Lib.hid (HT.out.put HX.out (by have := hm.out; omega) HHI.out HLO.out HG2.out)
              have HL2 := Lib.hid (show m + 1 = (L.set 0 x).length by rw [List.length_set, hL.out, ← hm.out])
              have hc7 : 0 < c5 := by omega
              have hc8 : 0 < m + 1 := by omega
              clear hz
              go_wp2_with fail
              exact ⟨⟨q + 1, L.set 0 x, some ⟨g5, 0, none⟩, m + 1, c5, by go_num, rfl, HL2, by omega, by omega, HT2, Lib.hid (by rw [List.map_set]; exact HO7.out), HB7⟩, by simp [RowKit.intOf] <;> omega⟩
        · obtain ⟨g2, rfl, hgB, hmc, hcm⟩ := own_at HO2.out (by omega)
          have hk0 : 0 < k := Nat.pos_of_ne_zero hk
          have hk1 : (0 : Int) < k := by omega
          have hk2 : (0 : Int) ≤ (k : Int) - 1 := by omega
          have hk3 : (k : Int) - 1 < m := by omega
          have twk : IntKind.i64.wrap ((k : Int) - 1) = (k : Int) - 1 := IntWalk.i64_in _ ⟨by omega, by omega⟩
          have tnk : ((k : Int) - 1).toNat = k - 1 := by omega
          obtain ⟨y, hy⟩ : ∃ y, zs[k - 1]? = some y := ⟨_, List.getElem?_eq_getElem (by have := HM.out; omega)⟩
          have HY := Lib.hid hy
          have yq : w2.cell? ⟨g2, k - 1, none⟩ = some (.string y) := by
            rw [HO2.out.cellAt (k - 1) (by omega), List.getElem?_map, hy]; rfl
          have hg2 : g2 < w2.heap.size := cell_lt yq
          clear hy
          by_cases hgt : leB (bl y) (bl x) = true
          · by_cases heq : bl y = bl x
            · have b1 : Op.bytesLess y.toList x.toList = false := by rw [bless, tl_eq, heq]; simp
              have b2 : (y.toList == x.toList) = true := by rw [tl_eq, heq]; simp
              have HE := Lib.hid (show y = x from (by cases y; cases x; simp only [bl] at heq; congr 1; exact Array.ext' heq))
              clear hgt heq
              go_wp2_with fail
              go_quiet (fail)
              go_wp2_with fail
              go_quiet (fail)
              go_wp2_with fail
              exact ⟨⟨q + 1, zs, _, m, c1, by go_num, rfl, HM, by omega, by omega, Lib.hid (HT.out.same HX.out (by rw [← HE.out]; exact HY.out)), Lib.hid (own_below HO2.out (below_dN w2 _)), Lib.hid (bt HB3.out (below_dN w2 _) HB3.out.size)⟩, by simp [RowKit.intOf] <;> omega⟩
            · have HLO := Lib.hid (show Lo zs k x from Or.inr ⟨y, HY.out, hgt, heq⟩)
              have b2 : (y.toList == x.toList) = false := by rw [tl_eq]; exact beq_eq_false_iff_ne.2 heq
              have b1 : Op.bytesLess y.toList x.toList = true := by rw [bless, hgt, b2]; rfl
              clear hgt heq
              go_wp2_with fail
              go_quiet (fail)
              go_wp2_with fail
              go_quiet (fail)
              go_wp2_with (refine wpList_append_reads _ Value.string (fun _ => rfl) 37 9 iS _ 16 Tryz.underlying37 hi hz0 hz1 hz2 rfl rfl (.tmp 45) (.tmp 46) rfl (w.heap.size) _ m zs rfl (own_below HO2.out (HSB.out _ _)) _ _ 1 _ [⟨#[]⟩] rfl (rd_one _ _ _ _ (dN_size _ _)) hmb (by omega) (HSZ.out _ _) ?_; intro A5 n5 c5 w5 hn5 hc5 hown5 hb5; have HN5 := Lib.hid hn5; have HO5 := Lib.hid hown5; have HB5 := Lib.hid (bt (bt HB3.out (HSB.out _ _) HB3.out.size) hb5 (Nat.le_refl _)); clear hown5 hb5 hn5; refine Hid.out ?_)
              refine Lib.hid ?_
              obtain rfl := HN5.out.out
              have HG0 := Lib.hid (show Gap zs m (zs ++ [⟨#[]⟩]) by have := Gap.start zs ⟨#[]⟩; rw [← HM.out] at this; exact this)
              clear HN5 HO2 HB2 HB3 HSB HSZ
              go_wp2_with fail
              go_loopw [6] (fun kv w6 => ∃ (k2 : Nat) (L : List ByteArray), kv = .int .i64 k2 ∧ k ≤ k2 ∧ k2 ≤ m ∧ Hid (Gap zs k2 L) ∧ Hid (w6.ownsRow w.heap.size 9 1 (.slice A5 (m + 1) c5) (m + 1) (L.map .string)) ∧ Hid (Below w.heap.size w w6)) (fun kv _ => (RowKit.intOf kv - k).toNat)
              case atStart => exact ⟨m, _, rfl, hkm, Nat.le_refl _, HG0, HO5, HB5⟩
              case round =>
                obtain ⟨k2, L, rfl, hk2a, hk2b, HG, HO6, HB6⟩ := hrel
                obtain ⟨g5, rfl, hg5, hmc5, hcm5⟩ := own_at HO6.out (by omega)
                have hL := Lib.hid HG.out.1
                have hm := Lib.hid HM.out
                by_cases hlt2 : k < k2
                · obtain ⟨k3, rfl⟩ : ∃ k3, k2 = k3 + 1 := ⟨k2 - 1, by omega⟩
                  obtain ⟨y, hy⟩ : ∃ y, zs[k3]? = some y := ⟨_, List.getElem?_eq_getElem (by have := hm.out; omega)⟩
                  have y0 : wr.cell? ⟨g5, k3, none⟩ = some (.string y) := by
                    rw [HO6.out.cellAt k3 (by omega), List.getElem?_map, HG.out.2.1 k3 (by omega), hy]; rfl
                  obtain ⟨z, hz⟩ : ∃ z, L[k3 + 1]? = some z := ⟨_, List.getElem?_eq_getElem (by have := hL.out; have := hm.out; omega)⟩
                  have y1 : wr.cell? ⟨g5, k3 + 1, none⟩ = some (.string z) := by
                    rw [HO6.out.cellAt (k3 + 1) (by omega), List.getElem?_map, hz]; rfl
                  have f1 : wr.frozen? ⟨g5, k3 + 1, none⟩ = false := HO6.out.frozenAt _
                  have hg5z : g5 < wr.heap.size := cell_lt y0
                  have HG2 := Lib.hid (HG.out.step (by have := hm.out; omega) hy)
                  have HO7 := Lib.hid ((HO6.out.stored (k3 + 1) (.string y)).1)
                  have HB7 := Lib.hid (HB6.out.setCell (p := ⟨g5, k3 + 1, none⟩) hg5 (.string y))
                  have hk30 : (0 : Int) ≤ k3 := by omega
                  have hlt3 : k < k3 + 1 := hlt2
                  have hlti : (k : Int) < (k3 : Int) + 1 := by omega
                  have hc7 : k3 + 1 < c5 := by omega
                  clear hy hz
                  go_wp2_with fail
                  exact ⟨⟨k3, _, by go_num, by omega, by omega, HG2, Lib.hid (by rw [List.map_set]; exact HO7.out), HB7⟩, by simp [RowKit.intOf] <;> omega⟩
                · obtain rfl : k = k2 := by omega
                  have f1 : wr.frozen? ⟨g5, k, none⟩ = false := HO6.out.frozenAt _
                  obtain ⟨z, hz⟩ : ∃ z, L[k]? = some z := ⟨_, List.getElem?_eq_getElem (by have := hL.out; have := hm.out; omega)⟩
                  have y1 : wr.cell? ⟨g5, k, none⟩ = some (.string z) := by
                    rw [HO6.out.cellAt k (by omega), List.getElem?_map, hz]; rfl
                  have xq := HXQ.out wr HB6.out
                  have hg5z : g5 < wr.heap.size := cell_lt y1
                  have hg1z : g1 < wr.heap.size := cell_lt xq
                  have HG2 := Lib.hid (HG.out.done (by have := hm.out; omega) x)
                  have HO7 := Lib.hid ((HO6.out.stored k (.string x)).1)
                  have HB7 := Lib.hid (HB6.out.setCell (p := ⟨g5, k, none⟩) hg5 (.string x))
                  have HT2 := Lib.hid (HT.out.put HX.out (by have := hm.out; omega) HHI.out HLO.out HG2.out)
                  have HL2 := Lib.hid (show m + 1 = (L.set k x).length by rw [List.length_set, hL.out, ← hm.out])
                  have hc7 : k < c5 := by omega
                  have hc8 : k < m + 1 := by omega
                  clear hz
                  go_wp2_with fail
                  exact ⟨⟨q + 1, L.set k x, some ⟨g5, 0, none⟩, m + 1, c5, by go_num, rfl, HL2, by omega, by omega, HT2, Lib.hid (by rw [List.map_set]; exact HO7.out), HB7⟩, by simp [RowKit.intOf] <;> omega⟩
          · have hgf : leB (bl y) (bl x) = false := by cases h : leB (bl y) (bl x) <;> simp_all
            have b1 : Op.bytesLess y.toList x.toList = false := by rw [bless, hgf]; rfl
            have b2 : (y.toList == x.toList) = false := by
              rw [tl_eq]
              refine beq_eq_false_iff_ne.2 fun e => ?_
              rw [e, le_rf] at hgf
              cases hgf
            have HHI2 := Lib.hid (show ∀ j y, k - 1 ≤ j → zs[j]? = some y → leB (bl y) (bl x) = false from fun j y' h1 h2 => by
              by_cases e : j = k - 1
              · subst e; rw [HY.out] at h2; injection h2 with h2; subst h2; exact hgf
              · exact HHI.out j y' (by omega) h2)
            clear hgt hgf
            go_wp2_with fail
            go_quiet (fail)
            go_wp2_with fail
            exact ⟨⟨k - 1, ret_sub hk0, by omega, HHI2, Lib.hid (bt HB2.out (below_dN w2 _) HB2.out.size)⟩, by simp [RowKit.intOf] <;> omega⟩
    · have hlt : ¬ (q : Int) < (n : Int) := by omega
      have hqe : q = n := by omega
      have HZ := Lib.hid (show zs.map bl = lbl (xs.map bl) from sorted_eq HT.out.srt (lbl_sorted _) fun z => by
        rw [HT.out.mem, lbl_mem, hqe, ← HN.out, List.take_length])
      have hm := HM.out
      subst hm
      go_wp2_with fail
      go_ret
      exact ⟨zs, HZ.out, A1, c1, rfl, HO.out, HB.out⟩
end Go.Proofs.YtpaehicfndkliaaGreatDoor.De


/- The walks of the document's 'labels', 'Labels'. Condition: the path can be read; it is asked, for 'labels'; it has not too many labels. -/
namespace Go.Proofs.YtpaehicfndkliaaGreatDoor.De
open Go.RowKit Go.Lib Na Go.PN Pa

theorem own_cap {w : World} {B n c size : Nat} {e : TypeId} {cs : List Value} {A : Option Addr} (h : w.ownsRow B e size (.slice A n c) n cs) : n ≤ c := by
  by_cases h0 : n = 0
  · rw [h0]; exact Nat.zero_le _
  · exact (own_at h (by omega)).elim fun _ h => h.2.2.1
set_option maxRecDepth 100000 in
set_option maxHeartbeats 16000000 in
theorem rlabels_n (n : Nat) : ∀ (a : Nd) (X : List Nat) (w : World), a.kids.sz < n → a.ok w X → Kn (a.fo .nil) → (labF (a.fo .nil)).length ≤ 1000000 →
    Calls Tryz.prog 52 #[a.v] w (StrsP w (labF (a.fo .nil))) := by
  induction n with
  | zero => intro a X w hn; omega
  | succ n ih =>
    intro a X w hn hok hkn hll
    obtain ⟨iS, hi, hz0, hz1, hz2⟩ := iStr
    obtain ⟨k, l, A, c, mn, mx, kids⟩ := a
    obtain ⟨hc, hc2, hat⟩ := hok
    unfold Nd.v Nd.fo at *
    simp only at hn hc hc2 hat hll hkn ⊢
    by_cases h23 : k = 2 ∨ k = 3
    · have hk0 := nil_of (hkn.1.2.1 h23)
      subst hk0
      simp only [Fo.len] at *
      rcases h23 with rfl | rfl
      · have HT := Lib.hid (show labF (.cons 2 l .nil mn mx .nil) = [l] by rw [labF_one]; rfl)
        have HB0 := Lib.hid (show Below w.heap.size w (w.alloc (obj5 2 l A 0 c mn mx)) from (Below.refl _ w).alloc (Nat.le_refl _) _)
        have HS0 := Lib.hid (show ((w.alloc (obj5 2 l A 0 c mn mx)).alloc (.cells #[.string l] 9)).ownsRow (w.heap.size + 1) 9 1 (.slice none 0 0) 0 (([] : List ByteArray).map .string) from ⟨rfl, Or.inl ⟨rfl, rfl⟩⟩)
        have hm1 : 0 + 1 ≤ maxLen := by unfold maxLen; omega
        have HSZ := Lib.hid (show w.heap.size + 1 ≤ ((w.alloc (obj5 2 l A 0 c mn mx)).alloc (.cells #[.string l] 9)).heap.size by simp)
        have HB1 := Lib.hid (show Below w.heap.size w ((w.alloc (obj5 2 l A 0 c mn mx)).alloc (.cells #[.string l] 9)) from HB0.out.alloc HB0.out.size _)
        have HY := Lib.hid ((Bx.new w (.int .i64 2) (.string l) (.slice A 0 c) (.int .i64 mn) (.int .i64 mx) 24).al (.cells #[.string l] 9))
        rw [HT.out]
        clear hat hn ih hll hkn HT
        go_enter Tryz.func52, Tryz.ntmps52
        go_wp2_with (refine wpList_append_reads _ Value.string (fun _ => rfl) 37 9 iS _ 16 Tryz.underlying37 hi hz0 hz1 hz2 rfl rfl (.tmp 13) (.tmp 16) rfl (w.heap.size + 1) _ 0 [] rfl HS0.out _ _ 1 _ [l] rfl (rd_one _ _ _ _ (by simp)) hm1 (by omega) HSZ.out ?_; intro A5 n5 c5 w5 hn5 hc5 hown5 hb5; have HN5 := Lib.hid hn5; have HO5 := Lib.hid hown5; have HB5 := Lib.hid (bt HB1.out hb5 (by omega)); have HY5 := Lib.hid (HY.out.at_below hb5 (by omega)); clear hown5 hb5 hn5; refine Hid.out ?_)
        refine Lib.hid ?_
        obtain rfl := HN5.out.out
        obtain ⟨⟨x0, x1, x2, x3, x4⟩, y0, y1, y2, y3, y4⟩ := bx_all HY5.out
        go_wp2_with fail
        go_loop [3, 4] (fun lv iv => lv = .slice A5 1 c5 ∧ iv = .int .i64 0) (fun _ _ => 0)
        case atStart => exact ⟨rfl, rfl⟩
        case round =>
          obtain ⟨rfl, rfl⟩ := hrel
          go_wp2_with fail
          go_ret
          exact ⟨A5, c5, rfl, own_mono HO5.out (Nat.le_succ _), HB5.out⟩
      · have HT := Lib.hid (show labF (.cons 3 l .nil mn mx .nil) = [l] by rw [labF_one]; rfl)
        have HB0 := Lib.hid (show Below w.heap.size w (w.alloc (obj5 3 l A 0 c mn mx)) from (Below.refl _ w).alloc (Nat.le_refl _) _)
        have HS0 := Lib.hid (show ((w.alloc (obj5 3 l A 0 c mn mx)).alloc (.cells #[.string l] 9)).ownsRow (w.heap.size + 1) 9 1 (.slice none 0 0) 0 (([] : List ByteArray).map .string) from ⟨rfl, Or.inl ⟨rfl, rfl⟩⟩)
        have hm1 : 0 + 1 ≤ maxLen := by unfold maxLen; omega
        have HSZ := Lib.hid (show w.heap.size + 1 ≤ ((w.alloc (obj5 3 l A 0 c mn mx)).alloc (.cells #[.string l] 9)).heap.size by simp)
        have HB1 := Lib.hid (show Below w.heap.size w ((w.alloc (obj5 3 l A 0 c mn mx)).alloc (.cells #[.string l] 9)) from HB0.out.alloc HB0.out.size _)
        have HY := Lib.hid ((Bx.new w (.int .i64 3) (.string l) (.slice A 0 c) (.int .i64 mn) (.int .i64 mx) 24).al (.cells #[.string l] 9))
        rw [HT.out]
        clear hat hn ih hll hkn HT
        go_enter Tryz.func52, Tryz.ntmps52
        go_wp2_with (refine wpList_append_reads _ Value.string (fun _ => rfl) 37 9 iS _ 16 Tryz.underlying37 hi hz0 hz1 hz2 rfl rfl (.tmp 13) (.tmp 16) rfl (w.heap.size + 1) _ 0 [] rfl HS0.out _ _ 1 _ [l] rfl (rd_one _ _ _ _ (by simp)) hm1 (by omega) HSZ.out ?_; intro A5 n5 c5 w5 hn5 hc5 hown5 hb5; have HN5 := Lib.hid hn5; have HO5 := Lib.hid hown5; have HB5 := Lib.hid (bt HB1.out hb5 (by omega)); have HY5 := Lib.hid (HY.out.at_below hb5 (by omega)); clear hown5 hb5 hn5; refine Hid.out ?_)
        refine Lib.hid ?_
        obtain rfl := HN5.out.out
        obtain ⟨⟨x0, x1, x2, x3, x4⟩, y0, y1, y2, y3, y4⟩ := bx_all HY5.out
        go_wp2_with fail
        go_loop [3, 4] (fun lv iv => lv = .slice A5 1 c5 ∧ iv = .int .i64 0) (fun _ _ => 0)
        case atStart => exact ⟨rfl, rfl⟩
        case round =>
          obtain ⟨rfl, rfl⟩ := hrel
          go_wp2_with fail
          go_ret
          exact ⟨A5, c5, rfl, own_mono HO5.out (Nat.le_succ _), HB5.out⟩
    · have t2 : (k == 2) = false := by rw [beq_eq_false_iff_ne]; omega
      have t3 : (k == 3) = false := by rw [beq_eq_false_iff_ne]; omega
      have HT := Lib.hid (show labF (.cons k l kids mn mx .nil) = labF kids by rw [labF_one, if_neg h23])
      rw [HT.out] at hll ⊢
      have HN := Lib.hid hn
      have HA := Lib.hid hat
      have IH := Lib.hid ih
      have HLL := Lib.hid hll
      have HKN := Lib.hid hkn.2.1
      have HK0 := Lib.hid (Bx.new w (.int .i64 k) (.string l) (.slice A kids.len c) (.int .i64 mn) (.int .i64 mx) 24)
      have HB0 := Lib.hid (show Below w.heap.size w (w.alloc (obj5 k l A kids.len c mn mx)) from (Below.refl _ w).alloc (Nat.le_refl _) _)
      have HZ0 := Lib.hid (show w.heap.size + 1 ≤ (w.alloc (obj5 k l A kids.len c mn mx)).heap.size by simp)
      have HS0 := Lib.hid (show (w.alloc (obj5 k l A kids.len c mn mx)).ownsRow (w.heap.size + 1) 9 1 (.slice none 0 0) 0 ((labF .nil).map .string) from ⟨rfl, Or.inl ⟨rfl, rfl⟩⟩)
      clear hat hn ih HT h23 hll hkn
      go_enter Tryz.func52, Tryz.ntmps52
      go_wp2_with fail
      go_loopw [3, 4] (fun lv iv wr => ∃ (q : Nat) (dn r : Fo) (A1 : Option Addr) (m c1 : Nat), Hid (kids = dn.app r) ∧ Hid (dn.len = q) ∧ iv = .int .i64 q ∧ lv = .slice A1 m c1 ∧ Hid (m = (labF dn).length) ∧ m ≤ 1000000 ∧ Hid (wr.ownsRow (w.heap.size + 1) 9 1 (.slice A1 m c1) m ((labF dn).map .string)) ∧ Hid (Bx wr w.heap.size (.int .i64 k) (.string l) (.slice A kids.len c) (.int .i64 mn) (.int .i64 mx)) ∧ Hid (Below w.heap.size w wr) ∧ Hid (w.heap.size + 1 ≤ wr.heap.size)) (fun _ iv _ => kids.len - (RowKit.intOf iv).toNat)
      case atStart => exact ⟨0, .nil, kids, none, 0, 0, Lib.hid rfl, Lib.hid rfl, rfl, rfl, Lib.hid rfl, Nat.zero_le _, HS0, HK0, HB0, HZ0⟩
      case round =>
        obtain ⟨q, dn, r, A1, m, c1, hk, hq, rfl, rfl, hm, hm6, HS, HK, HB, HZ⟩ := hrel
        clear HS0 HK0 HB0 HZ0
        have hlen := Lib.hid (show kids.len = q + r.len by rw [hk.out, Fo.app_len, hq.out])
        obtain ⟨⟨x0, x1, x2, x3, x4⟩, y0, y1, y2, y3, y4⟩ := bx_all HK.out
        cases r with
        | nil =>
          have hlt : ¬ (q : Int) < kids.len := by have := hlen.out; simp only [Fo.len] at this; omega
          have hlt2 : decide (q < kids.len) = false := decide_eq_false (by omega)
          have hdk : dn = kids := by have := hk.out; rw [Fo.app_nil] at this; exact this.symm
          subst hdk
          go_wp2_with fail
          go_ret
          have hme := hm.out
          subst hme
          exact ⟨A1, c1, rfl, own_mono HS.out (Nat.le_succ _), HB.out⟩
        | cons k1 l1 d1 mn1 mx1 r1 =>
          have hlt : (q : Int) < kids.len := by have := hlen.out; simp only [Fo.len] at this; omega
          have hlt2 : decide (q < kids.len) = true := decide_eq_true (by omega)
          have hq0 : (0 : Int) ≤ q := by omega
          have hk2 : kids = dn.app (.cons k1 l1 d1 mn1 mx1 r1) := hk.out
          obtain ⟨b0, o0, rfl⟩ := at_shape HA.out (by have := hlen.out; simp only [Fo.len] at this; omega)
          have h3 := HA.out.below HB.out
          rw [hk2] at h3
          obtain ⟨K1, c3, hcel, hc3, hc4, hat1⟩ := h3.nth hq.out
          obtain ⟨e0, e1, e2, e3, e4⟩ := hcel
          have hsz : d1.sz < n := by
            have h5 := congrArg Fo.sz hk2
            rw [Fo.app_sz] at h5
            have h6 := HN.out
            simp only [Fo.sz] at h5
            omega
          have hkn1 : Kn (.cons k1 l1 d1 mn1 mx1 .nil) := by
            have h5 := HKN.out
            rw [hk2] at h5
            have h6 := h5.app
            exact ⟨h6.1, h6.2.1, trivial⟩
          have hkk := Lib.hid (show kids = (dn.app (.cons k1 l1 d1 mn1 mx1 .nil)).app r1 by rw [hk2, Fo.app_assoc]; rfl)
          have hlab : (labF kids).length = (labF dn).length + (labF (.cons k1 l1 d1 mn1 mx1 .nil)).length + (labF r1).length := by rw [hkk.out, labF_app, labF_app, List.length_append, List.length_append]
          have hlk := HLL.out
          have hme := hm.out
          have HLA := Lib.hid (show labF (dn.app (.cons k1 l1 d1 mn1 mx1 .nil)) = labF dn ++ labF (.cons k1 l1 d1 mn1 mx1 .nil) from labF_app _ _)
          have HCALL := Lib.hid (IH.out ⟨k1, l1, K1, c3, mn1, mx1, d1⟩ X wr hsz ⟨hc3, hc4, hat1⟩ hkn1 (by show (labF (.cons k1 l1 d1 mn1 mx1 .nil)).length ≤ 1000000; omega))
          unfold Nd.v at HCALL
          simp only at HCALL
          have hqq := Lib.hid (show (dn.app (.cons k1 l1 d1 mn1 mx1 .nil)).len = q + 1 by rw [Fo.app_len, hq.out]; rfl)
          have HSUM := Lib.hid (show m + (labF (.cons k1 l1 d1 mn1 mx1 .nil)).length = (labF (dn.app (.cons k1 l1 d1 mn1 mx1 .nil))).length by rw [HLA.out, List.length_append, ← hme])
          have hbd : m + (labF (.cons k1 l1 d1 mn1 mx1 .nil)).length ≤ 1000000 := by omega
          clear h3 hat1 hsz hk2 hlab hlk hme hkn1
          generalize labF (.cons k1 l1 d1 mn1 mx1 .nil) = ys at *
          have hmb : m + ys.length ≤ maxLen := by unfold maxLen; omega
          go_wp2_with (first
            | (go_at_call 52; (with_reducible refine (HCALL.out).mono ?_); rintro e w2 ⟨A2, c2, rfl, hown2, hb2⟩; have HO2 := Lib.hid (Reads.of_own hown2); have HB2 := Lib.hid hb2; have HS2 := Lib.hid (own_below HS.out HB2.out); have HZ2 := Lib.hid (Nat.le_trans HZ.out HB2.out.size); clear hown2 hb2)
            | (refine wpList_append_reads _ Value.string (fun _ => rfl) 37 9 iS _ 16 Tryz.underlying37 hi hz0 hz1 hz2 rfl rfl (.tmp 25) (.tmp 31) rfl (w.heap.size + 1) _ m (labF dn) rfl HS2.out _ _ ys.length _ ys rfl HO2.out hmb (by omega) HZ2.out ?_; intro A5 n5 c5 w5 hn5 hc5 hown5 hb5; have HN5 := Lib.hid hn5; have HO5 := Lib.hid hown5; have HB5 := Lib.hid hb5; clear hown5 hb5 hn5))
          have hn5 := HN5.out.out
          exact ⟨⟨q + 1, _, r1, A5, n5, c5, hkk, hqq, by go_num, rfl, Lib.hid (by rw [hn5]; exact HSUM.out), by omega, Lib.hid (by rw [HLA.out]; exact HO5.out), Lib.hid ((HK.out.below HB2.out).at_below HB5.out (by omega)), Lib.hid (bt2 HB.out HB2.out HB5.out HB.out.size (by omega)), Lib.hid (Nat.le_trans HZ2.out HB5.out.size)⟩, by simp [RowKit.intOf] <;> omega⟩
/-- A row of texts in order is handed back. -/
def LabS (w : World) (ls : List (List UInt8)) (e : Ending) (w' : World) : Prop := ∃ zs : List ByteArray, zs.map bl = ls ∧ StrsP w zs e w'
theorem LabS.lab {w : World} {ls : List (List UInt8)} {e : Ending} {w' : World} (h : LabS w ls e w') : LabP w ls e w' := by
  obtain ⟨zs, rfl, A, c, rfl, hown, hb⟩ := h
  have hl : (zs.map bl).length = zs.length := List.length_map _
  refine ⟨A, c, by rw [hl], ?_, (RdS.own hown).rdt, hb⟩
  rw [hl]
  by_cases h0 : zs.length = 0
  · rw [h0]; exact Nat.zero_le _
  · exact (own_at hown (by omega)).elim fun _ h => h.2.2.1
set_option maxRecDepth 100000 in
set_option maxHeartbeats 4000000 in
/-- The document's 'Labels' is the program's. -/
theorem rLabels_any (a : Nd) (X : List Nat) (w : World) (h : a.ok w X) (hlb : Lb (a.fo .nil)) (hs : a.kids.sz ≤ 900000) : Calls Tryz.prog 23 #[a.v] w (LabS w (labR a.k a.l a.kids a.mn a.mx)) := by
  have hll : (labF (a.fo .nil)).length ≤ 1000000 := by
    have := labF_len (a.fo .nil)
    unfold Nd.fo at this ⊢
    simp only [Fo.sz] at this
    omega
  have HM := Lib.hid (fun (w1 : World) (hb1 : Below w.heap.size w w1) => rMay_any a X w1 (h.below hb1) hlb (by omega))
  have HL := Lib.hid (fun (hk : knownB a.k a.l a.kids a.mn a.mx = true) (w1 : World) (hb1 : Below w.heap.size w w1) => rlabels_n (a.kids.sz + 1) a X w1 (Nat.lt_succ_self _) (h.below hb1) (Kn.known hk) hll)
  have HB := Lib.hid ((Below.refl _ w).alloc (Nat.le_refl _) (obj5 a.k a.l a.A a.kids.len a.c a.mn a.mx))
  have HY := Lib.hid (Bx.new w (.int .i64 a.k) (.string a.l) (.slice a.A a.kids.len a.c) (.int .i64 a.mn) (.int .i64 a.mx) 24)
  have HLL := Lib.hid hll
  have HE := Lib.hid (show labR a.k a.l a.kids a.mn a.mx = (if knownB a.k a.l a.kids a.mn a.mx = true then lbl ((labF (a.fo .nil)).map bl) else []) from rfl)
  unfold Nd.v at *
  clear h hlb hs hll
  generalize labR a.k a.l a.kids a.mn a.mx = R at *
  generalize labF (a.fo .nil) = xs at *
  generalize knownB a.k a.l a.kids a.mn a.mx = K at *
  cases K
  · have HR := Lib.hid (show R = [] from HE.out)
    clear HE HL
    rw [HR.out]
    go_enter Tryz.func23, Tryz.ntmps23
    go_wp2_with (go_at_call 49; (with_reducible refine (HM.out _ HB.out).mono ?_); rintro e w2 ⟨rfl, hb2⟩; have HB2 := Lib.hid (bt HB.out hb2 HB.out.size); clear hb2)
    go_ret
    exact ⟨[], rfl, none, 0, rfl, ⟨rfl, Or.inl ⟨rfl, rfl⟩⟩, HB2.out⟩
  · have HR := Lib.hid (show R = lbl (xs.map bl) from HE.out)
    have HL1 := Lib.hid (HL.out rfl)
    clear HE HL
    rw [HR.out]
    go_enter Tryz.func23, Tryz.ntmps23
    go_wp2_with (first
      | (go_at_call 49; (with_reducible refine (HM.out _ HB.out).mono ?_); rintro e w2 ⟨rfl, hb2⟩; have HB2 := Lib.hid (bt HB.out hb2 HB.out.size); obtain ⟨⟨x0, x1, x2, x3, x4⟩, y0, y1, y2, y3, y4⟩ := bx_all (HY.out.below hb2); clear hb2)
      | (go_at_call 52; (with_reducible refine (HL1.out _ HB2.out).mono ?_); rintro e w3 ⟨A3, c3, rfl, hown3, hb3⟩; have HB3 := Lib.hid (bt HB2.out hb3 HB2.out.size); have HST := Lib.hid (sortTexts_any A3 c3 xs w3 (RdS.own hown3) (own_cap hown3) HLL.out); clear hown3 hb3)
      | (go_at_call 51; (with_reducible refine (HST.out).mono ?_); rintro e w4 ⟨zs, hzs, A4, c4, rfl, hown4, hb4⟩; have HZ := Lib.hid hzs; have HO4 := Lib.hid hown4; have HZB := Lib.hid HB3.out.size; have HB4 := Lib.hid (bt HB3.out hb4 HB3.out.size); clear hown4 hb4 hzs))
    go_ret
    exact ⟨zs, HZ.out, A4, c4, rfl, own_mono HO4.out HZB.out, HB4.out⟩
end Go.Proofs.YtpaehicfndkliaaGreatDoor.De
