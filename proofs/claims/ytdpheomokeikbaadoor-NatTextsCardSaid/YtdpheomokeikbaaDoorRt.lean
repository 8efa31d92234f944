/- The document's own TextNat. Conditions: the digits can be read. -/
import Derived.Test.YtdpheomokeikbaaDoorRp
import Derived.Test.YtdpheomokeikbaaDoorDr
import Derived.Laws.IdiomStrings
import Derived.Test.YtdpheomokeikbaaDoorWp
namespace Go.Proofs.YtdpheomokeikbaaDoor
open Go.RowKit Go.NT Go.Lib

abbrev mk8 (d : UInt8) : Value := Value.int .u8 (d.toNat : Int)
@[go_sem] theorem field24 (b : Bool) (A : Option Addr) (n c : Nat) (w : World) : (Instr.field 24 (.agg #[.bool b, .slice A n c]) 1).run Tryd.prog w = .ok (.slice A n c) w := by kernel_rfl
theorem apart_step {A6 B B5 : Option Addr} {L cb L5 cb5 sz : Nat} {m6 : Nat} (h : 0 < m6 → ∀ ad g, A6 = some ad → B = some g → ad.block ≠ g.block) (hk : (Value.slice B5 L5 cb5).ownBlock = (Value.slice B L cb).ownBlock ∨ (Value.slice B5 L5 cb5).ownBlock = some sz) (hlt : 0 < m6 → ∀ ad, A6 = some ad → ad.block < sz) : 0 < m6 → ∀ ad g, A6 = some ad → B5 = some g → ad.block ≠ g.block := by
  intro h0 ad g e1 e2
  subst e2
  rcases hk with hk | hk
  · cases B with
    | none => cases hk
    | some g0 =>
      have : g.block = g0.block := Option.some.inj hk
      rw [this]
      exact h h0 ad g0 e1 rfl
  · have : g.block = sz := Option.some.inj hk
    have := hlt h0 ad e1
    omega
def lenW : Value → Nat
  | .slice _ m _ => m
  | _ => 0
theorem NV.grown {w w' : World} {A B : Option Addr} {m c L cb : Nat} {rs : List Int} (h : NV w A m c rs) (hg : w.grownBy w' (Value.slice B L cb).ownBlock) (hne : 0 < m → ∀ ad g, A = some ad → B = some g → ad.block ≠ g.block) : NV w' A m c rs := by
  refine ⟨⟨h.1.1, fun h0 => ?_⟩, h.2⟩
  obtain ⟨ad, e, hb, hc⟩ := h.1.2 h0
  refine ⟨ad, e, Nat.lt_of_lt_of_le hb hg.size, fun j u hu => ?_⟩
  refine (World.cell?_of_block (hg.block _ (by rw [block_of_add]; exact hb) (fun e2 => ?_))).trans (hc j u hu)
  cases B with
  | none => cases e2
  | some g =>
    have : (ad.add j).block = g.block := Option.some.inj e2
    rw [block_of_add] at this
    exact hne h0 ad g e rfl this
theorem sum9 {ds es : List UInt8} {r q2 q v : Int} (h9 : leV es = leV ds + 10 ^ ds.length * r) (hl : es.length = ds.length + 9) (hd : q2 * 1000000000 + r = q) (hs : leV ds + 10 ^ ds.length * q = v) : leV es + 10 ^ es.length * q2 = v := by
  rw [h9, hl, Int.pow_add, ← hs, ← hd, Int.mul_add, Int.mul_assoc, show (10 : Int) ^ 9 * q2 = q2 * 1000000000 by rw [Int.mul_comm]; rfl]
  omega
theorem nv_lt {w : World} {A : Option Addr} {m c : Nat} {rs : List Int} (h : NV w A m c rs) (h0 : 0 < m) : ∀ ad, A = some ad → ad.block < w.heap.size := by
  intro ad e
  obtain ⟨ad', e', hb, _⟩ := h.1.2 h0
  rw [e] at e'
  injection e' with e'
  subst e'
  exact hb
theorem own_at5 {w : World} {base n c : Nat} {A : Option Addr} {xs : List Value} (h : w.ownsRow base 5 1 (.slice A n c) n xs) (hn : 0 < n) : ∃ g, A = some ⟨g, 0, none⟩ ∧ base ≤ g := by
  obtain ⟨g, cap, hv, hb, _⟩ := h.form hn
  exact ⟨g, by injection hv, hb⟩
theorem add_zero8 (g j : Nat) : (⟨g, 0, none⟩ : Addr).add j = ⟨g, j, none⟩ := by
  unfold Addr.add
  by_cases h : j = 0
  · subst h; rfl
  · rw [if_neg h, Nat.zero_add]
theorem getU8 {w : World} {base g n c : Nat} {L : List UInt8} (h : w.ownsRow base 5 1 (.slice (some ⟨g, 0, none⟩) n c) n (L.map mk8)) {k : Nat} (hk : k < n) :
    w.cell? ⟨g, k, none⟩ = some (.int .u8 ((L.getD k 0).toNat : Int)) ∧ w.frozen? ⟨g, k, none⟩ = false := by
  have hl : L.length = n := by have := h.1; simpa using this
  refine ⟨?_, h.frozenAt k⟩
  rw [h.cellAt k (by omega), List.getElem?_map, List.getElem?_eq_getElem (by omega : k < L.length), List.getD_eq_getElem?_getD, List.getElem?_eq_getElem (by omega : k < L.length)]; rfl
theorem own_set2 {w w0 : World} {base g n c : Nat} {L : List UInt8} (h : w.ownsRow base 5 1 (.slice (some ⟨g, 0, none⟩) n c) n (L.map mk8)) (p J : Nat) (x y : UInt8) (hb : Below base w0 w) (hg : base ≤ g) :
    ((w.setCell ⟨g, p, none⟩ (mk8 x)).setCell ⟨g, J, none⟩ (mk8 y)).ownsRow base 5 1 (.slice (some ⟨g, 0, none⟩) n c) n (((L.set p x).set J y).map mk8) ∧ Below base w0 ((w.setCell ⟨g, p, none⟩ (mk8 x)).setCell ⟨g, J, none⟩ (mk8 y)) := by
  refine ⟨?_, (hb.setCell (p := ⟨g, p, none⟩) hg _).setCell (p := ⟨g, J, none⟩) hg _⟩
  have := ((h.stored p (mk8 x)).1.stored J (mk8 y)).1
  rwa [← List.map_set, ← List.map_set] at this
theorem Reads.get8 {w : World} {B n k : Nat} {A : Option Addr} {ds : List UInt8} (h : Reads w B 1 A n (ds.map mk8)) (hk : k < n) :
    ∃ ad, A = some ad ∧ w.cell? (ad.add k) = some (.int .u8 ((ds.getD k 0).toNat : Int)) := by
  have hn : ds.length = n := by have := h.1; simpa using this
  obtain ⟨ad, u, e, _, hx, hc⟩ := h.at_ hk
  refine ⟨ad, e, ?_⟩
  rw [hc, ← hx, List.getElem?_map, List.getElem?_eq_getElem (by omega : k < ds.length), List.getD_eq_getElem?_getD, List.getElem?_eq_getElem (by omega : k < ds.length)]; rfl
theorem take_snoc8 (l : List UInt8) (k : Nat) (h : k < l.length) : l.take (k + 1) = l.take k ++ [l.getD k 0] := by
  rw [List.take_succ_eq_append_getElem h, List.getD_eq_getElem?_getD, List.getElem?_eq_getElem h, Option.getD_some]
theorem trim_done {es : List UInt8} {v : Int} (hd : ∀ d ∈ es, dig d) (h : leV es = v) (hv : 0 ≤ v) (hne : es ≠ []) (hl : es.length = 1 ∨ es.getLast? ≠ some 48) : decI v = es.reverse := by
  by_cases h1 : 1 ≤ v
  · refine decI_reverse hd h h1 ?_
    rcases hl with hl | hl
    · obtain ⟨d, rfl⟩ := List.length_eq_one_iff.1 hl
      intro e
      have : d = 48 := by simpa using e
      subst this
      have : leV [48] = 0 := rfl
      omega
    · exact hl
  · obtain rfl : v = 0 := by omega
    rcases hl with hl | hl
    · obtain ⟨d, rfl⟩ := List.length_eq_one_iff.1 hl
      have h2 : ((d.toNat : Int) - 48) + 10 * 0 = 0 := h
      have h3 : d = 48 := UInt8.toNat_inj.1 (by show d.toNat = 48; omega)
      rw [h3, t0]; rfl
    · exfalso
      obtain ⟨t, d, rfl⟩ : ∃ t d, es = t ++ [d] := ⟨es.dropLast, es.getLast hne, (List.dropLast_concat_getLast hne).symm⟩
      rw [leV_snoc] at h
      have h2 := leV_nonneg t (fun x hx => hd x (by simp [hx]))
      have h3 := (hd d (by simp)).1
      have h4 : d.toNat ≠ 48 := fun e => hl (by simp; exact UInt8.toNat_inj.1 e)
      have hp : (0 : Int) < 10 ^ t.length := Int.pow_pos (by decide)
      have h5 := Int.mul_le_mul_of_nonneg_left (show (1 : Int) ≤ (d.toNat : Int) - 48 by omega) (Int.le_of_lt hp)
      omega
theorem own_shrink {w : World} {base : Nat} {e : TypeId} {A : Option Addr} {n c k : Nat} {xs : List Value} (h : w.ownsRow base e 1 (.slice A n c) n xs) (hk : k ≤ n) : w.ownsRow base e 1 (.slice A k c) k (xs.take k) := by
  obtain ⟨h1, h2⟩ := h
  refine ⟨by simp; omega, ?_⟩
  rcases h2 with ⟨hv, h0⟩ | ⟨g, cap, cur, hv, hb, hg, hnc, hcm, hcs, ht⟩
  · injection hv with e1 _ e3
    subst h0 e1 e3
    obtain rfl : k = 0 := by omega
    exact .inl ⟨rfl, rfl⟩
  · injection hv with e1 _ e3
    subst e1 e3
    refine .inr ⟨g, _, cur, rfl, hb, hg, by omega, hcm, hcs, ?_⟩
    rw [← ht, List.take_take]
    congr 1
    omega

set_option maxRecDepth 100000 in
set_option maxHeartbeats 2000000 in
theorem rtext_inf (A : Option Addr) (n c : Nat) (xs : List Int) (w : World) (hx : NV w A n c xs) (hn : n ≤ 1099511627776) :
    Calls Tryd.prog 32 #[.agg #[.bool true, .slice A n c]] w fun e w' => e = .returned (strV (textM (mean true xs))) ∧ Below w.heap.size w w' := by
  have hB1 : ∀ o, Below w.heap.size w (w.alloc o) := fun o => below_al (Below.refl _ _) o
  go_enter Tryd.func32, Tryd.ntmps32
  go_wp2_with (go_at_call 38; (with_reducible refine (clean_any true A n c xs _ (hx.below (hB1 _)) (by omega)).mono ?_); rintro e w1 ⟨A1, m1, d1, rfl, hv1, hf1, hm1, hb1⟩; have hBw := below_step (hB1 _) hb1 (hB1 _).size)
  go_ret
  exact ⟨rfl, below_al hBw _⟩
set_option maxRecDepth 100000 in
set_option maxHeartbeats 8000000 in
theorem rtext_fin (A : Option Addr) (n c : Nat) (xs : List Int) (w : World) (hx : NV w A n c xs) (hn : n ≤ 1099511627776) :
    Calls Tryd.prog 32 #[.agg #[.bool false, .slice A n c]] w fun e w' => e = .returned (strV (decI (val xs))) ∧ Below w.heap.size w w' := by
  obtain ⟨i60, hi, hz0, hz1, hz2⟩ := i60
  obtain ⟨i5, h5i, h50, h51, h52⟩ := i5
  have hB1 : ∀ o, Below w.heap.size w (w.alloc o) := fun o => below_al (Below.refl _ _) o
  have hvlt : Hid (val xs < 4294967296 ^ n) := Lib.hid (by have := val_lt hx.2.2.1; rwa [hx.len] at this)
  have hv0 : Hid (0 ≤ val xs) := Lib.hid (val_nonneg hx.2.2.1)
  go_enter Tryd.func32, Tryd.ntmps32
  go_wp2_with (go_at_call 38; (with_reducible refine (clean_any false A n c xs _ (hx.below (hB1 _)) (by omega)).mono ?_); rintro e w1 ⟨A1, m1, d1, rfl, hv1, hf1, hm1, hb1⟩; have hBw := below_step (hB1 _) hb1 (hB1 _).size; have hM1 := hm1.out)
  have hV := below_al hBw (Obj.cells #[.bool false, .slice A1 m1 d1] 24)
  have hQ1 := hv1.alloc (Obj.cells #[.bool false, .slice A1 m1 d1] 24)
  have hval1 : Hid (val (cleanD false xs) = val xs) := Lib.hid (val_strip xs)
  clear hv1 hb1 hBw hx hB1 hf1 hm1
  generalize w1.alloc (Obj.cells #[.bool false, .slice A1 m1 d1] 24) = V at *
  go_loopw [4, 5] (fun bv wv wr => ∃ (B : Option Addr) (L cb : Nat) (ds : List UInt8) (A5 : Option Addr) (m c5 : Nat) (Q : List Int), bv = .slice B L cb ∧ wv = .slice A5 m c5 ∧ wr.ownsRow V.heap.size 5 1 (.slice B L cb) L (ds.map mk8) ∧ L ≤ cb ∧ NV wr A5 m c5 Q ∧ m ≤ n ∧ Hid (Norm Q) ∧ Hid (∀ d ∈ ds, dig d) ∧ Hid (leV ds + 10 ^ ds.length * val Q = val xs) ∧ Below V.heap.size V wr ∧ Hid (L ≤ 10 * n + 9 + 9)) (fun bv _ _ => 10 * n + 9 - lenW bv)
  case atStart => exact ⟨none, 0, 0, [], A1, m1, d1, cleanD false xs, rfl, rfl, own_nil _ _ _, Nat.le_refl _, hQ1, hM1, Lib.hid (cleanD_norm _ _), Lib.hid (fun d h => by cases h), Lib.hid (by rw [hval1.out]; simp [leV]), Below.refl _ _, Lib.hid (Nat.zero_le _)⟩
  case round =>
    obtain ⟨B, L, cb, ds, A5, m, c5, Q, rfl, rfl, hown, hLc, hQ, hm, hnQ, hds, hsum, hbr, hLL⟩ := hrel
    have hVs := hbr.size
    have hLl := Lib.hid (show ds.length = L by have := hown.1; simpa using this)
    clear hQ1
    by_cases h0 : 0 < m
    · have h01 : (0 : Int) < (m : Int) := by omega
      have hq1 : 1 ≤ val Q := by
        have := Norm.pos hnQ.out hQ.2.2.1 (fun e => by have := hQ.len; rw [e] at this; simp at this; omega)
        have h2 := Wpow_pos (Q.length - 1)
        omega
      have hLb : L < 10 * n := by have := len_bound hds.out hq1 hsum.out hvlt.out; rwa [hLl.out] at this
      clear hq1
      go_wp2_with (at_make; refine wpList_make_full _ rfl (.tmp 23) (.tmp 23) 22 rfl wr.heap.size 60 i60 (.int .u32 0) 1 Tryd.underlying22 hi hz0 hz1 .i64 .i64 _ _ m rfl rfl (by omega) (by omega) (by rw [hz2]; omega) (by unfold maxLen; omega) (Nat.le_refl _) ?_; intro w4 hownN hg4)
      rw [zeros_cells _ _ rfl] at hownN
      have hb4 : Below wr.heap.size wr w4 := (Below.refl _ _).grown hg4 (Nat.le_refl _) (by intro k hk; cases hk)
      clear hg4
      obtain ⟨WQ, rfl⟩ : ∃ WQ, WQ = wr := ⟨_, rfl⟩
      have hQl := hQ.len
      have hDS : Hid (DivInv Q m (List.replicate m 0) 0) := Lib.hid (by have := DivInv.start Q; rwa [hQl] at this)
      have hQl' := Lib.hid hQl
      clear hQl
      go_loopw [6, 8, 9] (fun rv iv _ wr2 => ∃ (j : Nat) (L2 : List Int) (r : Int), rv = .int .u64 r ∧ iv = .int .i64 ((j : Int) - 1) ∧ j ≤ m ∧ wr2.ownsRow WQ.heap.size 60 1 (.slice (some ⟨WQ.heap.size, 0, none⟩) m m) m (L2.map (Value.int .u32)) ∧ Below WQ.heap.size WQ wr2 ∧ Hid (DivInv Q j L2 r)) (fun _ iv _ _ => (RowKit.intOf iv + 1).toNat)
      case atStart => exact ⟨m, _, 0, rfl, rfl, Nat.le_refl _, hownN, hb4, hDS⟩
      case round =>
        obtain ⟨j, L2, r, rfl, rfl, hj, hown2, hb2, hp⟩ := hrel
        clear hownN hb4 hDS
        cases j with
        | zero =>
          rw [show (((0 : Nat) : Int) - 1) = -1 from rfl]
          have hr0 := hp.out.2.2.1
          have hr1 := hp.out.2.2.2.1
          have hU2 := hp.out.2.1
          have hdone := Lib.hid hp.out.done
          have hNV2 : NV wr (some ⟨WQ.heap.size, 0, none⟩) m m L2 := ⟨Reads.of_own hown2, Nat.le_refl _, hU2, by omega⟩
          go_wp2_with (go_at_call 38; (with_reducible refine (clean_any false (some ⟨WQ.heap.size, 0, none⟩) m m L2 _ hNV2 (by omega)).mono ?_); rintro e w6 ⟨A6, m6, d6, rfl, hv6, hf6, hm6, hb6⟩)
          have hQ6 : NV w6 A6 m6 d6 (strip L2) := hv6
          have hb26 : Below WQ.heap.size WQ w6 := hb2.trans (hb6.mono hb2.size)
          have hown6 := own_kept hown hb26
          have hF6 := hf6.out
          have hM6 := hm6.out
          have hap : Hid (0 < m6 → ∀ ad g, A6 = some ad → B = some g → ad.block ≠ g.block) := Lib.hid (fun _ ad g e1 e2 => by
            have h1 := hF6 ad e1
            subst e2
            have h2 : g.block < WQ.heap.size := by
              rcases hown.2 with ⟨hv, _⟩ | ⟨g0, _, cur, hv, _, hg0, _⟩
              · cases hv
              · injection hv with hv
                injection hv with hv
                subst hv
                exact (Array.getElem?_eq_some_iff.1 hg0).1
            have h3 := hb2.size
            omega)
          have hV6 : Below V.heap.size V w6 := hbr.trans (hb26.mono hbr.size)
          have hN9 := Lib.hid (Nine.start ds r hr0 hds.out)
          have hL9 : L ≤ L + 9 := by omega
          clear hF6 hf6 hv6 hb6 hm6
          go_loopw [4, 6, 10] (fun bv rv kv wr3 => ∃ (k : Nat) (B3 : Option Addr) (cb3 : Nat) (es : List UInt8) (r3 : Int), bv = .slice B3 (L + k) cb3 ∧ rv = .int .u64 r3 ∧ kv = .int .i64 k ∧ k ≤ 9 ∧ wr3.ownsRow V.heap.size 5 1 (.slice B3 (L + k) cb3) (L + k) (es.map mk8) ∧ L + k ≤ cb3 ∧ NV wr3 A6 m6 d6 (strip L2) ∧ Hid (0 < m6 → ∀ ad g, A6 = some ad → B3 = some g → ad.block ≠ g.block) ∧ Hid (Nine ds r k es r3) ∧ Below V.heap.size V wr3 ∧ r3 < 1000000000) (fun _ _ kv _ => 9 - (RowKit.intOf kv).toNat)
          case atStart => exact ⟨0, B, cb, ds, r, rfl, rfl, rfl, by omega, hown6, hLc, hQ6, hap, hN9, hV6, hr1⟩
          case round =>
            obtain ⟨k, B3, cb3, es, r3, rfl, rfl, rfl, hk, hown3, hc3, hNV3, hap3, hnine, hb3, hr31⟩ := hrel
            have hr30 := hnine.out.2.2.1
            have hsz3 := hb3.size
            clear hown2 hb2 hNV2 hQ6 hown6 hap hV6 hN9
            by_cases hk9 : k < 9
            · have hk91 : (k : Int) < 9 := by omega
              obtain ⟨d, hdd⟩ : ∃ d : UInt8, d = UInt8.ofNat (48 + (r3 % 10).toNat) := ⟨_, rfl⟩
              have hdy : 48 + r3 % 10 = (d.toNat : Int) := by rw [hdd]; exact dig_of hr30
              have hst := Lib.hid (hnine.out.step hdy)
              have hd57 : (d.toNat : Int) ≤ 57 := by omega
              have hd48 : (48 : Int) ≤ (d.toNat : Int) := by omega
              have htm : r3.tmod 10 = r3 % 10 := Int.tmod_eq_emod_of_nonneg hr30
              have htd : r3.tdiv 10 = r3 / 10 := Int.tdiv_eq_ediv_of_nonneg hr30
              clear hdd
              go_wp2_with (at_builtin; refine wpList_append_any _ rfl (.tmp 56) (.tmp 61) 41 rfl V.heap.size 5 i5 (.int .u8 0) 1 1 Tryd.underlying41 h5i h50 h51 h52 rfl (by omega) _ (L + k) (es.map mk8) rfl (hown3.alloc _) _ _ 1 _ [mk8 d] rfl (Reads.lit1 mk8 wr d 5) (by intro u hu; simp only [List.mem_singleton] at hu; subst hu; rfl) (by unfold maxLen; omega) (by omega) (by simp; omega) ?_; intro v5 w5 hown5 hg5 hk5; obtain ⟨B5, cb5, rfl, hc5, _⟩ := own_slice hown5; have hNV5 := NV.grown (hNV3.alloc _) hg5 hap3.out)
              have hb5 := (hb3.alloc hsz3 (Obj.cells #[mk8 d] 5)).grown hg5 (by simp; omega) (fun k hk => (hown3.lt k hk).1)
              exact ⟨⟨k + 1, B5, cb5, es ++ [d], r3 / 10, rfl, rfl, by go_num, by omega, by rw [List.map_append]; exact hown5, hc5, hNV5, Lib.hid (apart_step hap3.out hk5 (fun h0 => nv_lt (hNV3.alloc _) h0)), hst, hb5, by omega⟩, by simp [RowKit.intOf]; omega⟩
            · obtain rfl : k = 9 := by omega
              have hk91 : ¬ ((9 : Nat) : Int) < 9 := by omega
              go_wp2_with fail
              exact ⟨⟨B3, L + 9, cb3, es, A6, m6, d6, strip L2, rfl, rfl, hown3, hc3, hNV3, by omega, Lib.hid (Norm.strip _), Lib.hid hnine.out.2.1, Lib.hid (sum9 (hnine.out.done hr1) hnine.out.1 (by rw [val_strip]; exact hdone.out) hsum.out), hb3, Lib.hid (by omega)⟩, by simp [lenW]; omega⟩
        | succ j =>
          rw [show (((j + 1 : Nat) : Int) - 1) = (j : Int) by omega]
          obtain ⟨ad, rfl, _, hcx⟩ := (hQ.1.below hb2).get (show j < m by omega)
          obtain ⟨hcl, hfz⟩ := Reads.getU hown2 (show j < m by omega)
          have hst := Lib.hid (hp.out.step hQ.2.2.1 (by rw [hQl'.out]; omega))
          have hLb := hQ.2.2.1.getD j
          have hr0 := hp.out.2.2.1
          have hr1 := hp.out.2.2.2.1
          have hos := fun x => own_set hown2 j x hb2 (Nat.le_refl _)
          unfold NT.W at hLb
          have hx0 := hLb.1
          have hx1 := hLb.2
          clear hLb
          generalize Q.getD j 0 = x at *
          have hor := or_shl hr0 hr1 hx0 hx1
          have hq0 : 0 ≤ r * 4294967296 + x := by omega
          have hq1 : r * 4294967296 + x < 4294967296000000000 := by omega
          have htd : (r * 4294967296 + x).tdiv 1000000000 = (r * 4294967296 + x) / 1000000000 := Int.tdiv_eq_ediv_of_nonneg hq0
          have htm : (r * 4294967296 + x).tmod 1000000000 = (r * 4294967296 + x) % 1000000000 := Int.tmod_eq_emod_of_nonneg hq0
          have hji : (j : Int) < (m : Int) := by omega
          go_wp2_with fail
          exact ⟨⟨j, _, _, rfl, rfl, by omega, (hos _).1, (hos _).2, hst⟩, by simp [RowKit.intOf]⟩
    · obtain rfl : m = 0 := by omega
      obtain rfl : Q = [] := List.eq_nil_of_length_eq_zero hQ.len
      have hv : leV ds = val xs := by have := hsum.out; simpa [val] using this
      have HV := Lib.hid hv
      clear hv
      have hrd := Reads.of_own hown
      have hbW := below_step hV hbr hV.size
      have hL31 : L ≤ 10 * n + 9 + 9 := hLL.out
      go_wp2_with fail
      go_loop [4] (fun v => ∃ k : Nat, v = .slice B k cb ∧ k ≤ L ∧ Hid (leV (ds.take k) = val xs)) (fun v => lenW v)
      case atStart => exact ⟨L, rfl, Nat.le_refl _, Lib.hid (by rw [List.take_of_length_le (by rw [hLl.out]; exact Nat.le_refl _)]; exact HV.out)⟩
      case round =>
        obtain ⟨k, rfl, hk, hp⟩ := hrel
        by_cases hgo : 1 < k ∧ ds.getD (k - 1) 0 = 48
        · obtain ⟨hk1, h48⟩ := hgo
          have hk11 : (1 : Int) < (k : Int) := by omega
          obtain ⟨ad, rfl, hcx⟩ := hrd.get8 (show k - 1 < L by omega)
          rw [h48] at hcx
          have hst : Hid (leV (ds.take (k - 1)) = val xs) := Lib.hid (by
            have h1 := take_snoc8 ds (k - 1) (by rw [hLl.out]; omega)
            rw [show k - 1 + 1 = k by omega, h48] at h1
            have h2 := hp.out
            rw [h1, leV_zero] at h2
            exact h2)
          have hkc : k - 1 ≤ cb := by omega
          clear h48
          go_wp2_with fail
          exact ⟨⟨k - 1, rfl, by omega, hst⟩, by show k - 1 < k; omega⟩
        · by_cases hk0 : k = 0
          · subst hk0
            have hz : Hid (val xs = 0) := Lib.hid (by have := hp.out; simpa [leV] using this.symm)
            go_wp2_with fail
            go_ret
            exact ⟨by rw [hz.out, t0]; rfl, hbW⟩
          · obtain ⟨es, hes⟩ : ∃ es, es = ds.take k := ⟨_, rfl⟩
            have hel : es.length = k := by rw [hes, List.length_take, hLl.out]; omega
            have hlast : k = 1 ∨ ds.getD (k - 1) 0 ≠ 48 := by
              by_cases e : k = 1
              · exact .inl e
              · exact .inr (fun e2 => hgo ⟨by omega, e2⟩)
            have hdec : Hid (decI (val xs) = es.reverse) := Lib.hid (trim_done (fun d hd => hds.out d (List.mem_of_mem_take (hes ▸ hd))) (by rw [hes]; exact hp.out) hv0.out (fun e => by rw [e] at hel; simp at hel; omega) (by
              rcases hlast with e | e
              · left; omega
              · right
                rw [List.getLast?_eq_getElem?, hel, hes, List.getElem?_take, if_pos (by omega), List.getElem?_eq_getElem (by rw [hLl.out]; omega)]
                intro e2
                apply e
                rw [List.getD_eq_getElem?_getD, List.getElem?_eq_getElem (by rw [hLl.out]; omega)]
                exact Option.some.inj e2))
            have hownk := own_shrink hown hk
            rw [← List.map_take, ← hes] at hownk
            obtain ⟨g, rfl, hg⟩ := own_at5 hownk (by omega)
            have hel' := Lib.hid hel
            clear hes hel hgo hp
            have hk00 : ((k : Int) == 0) = false := by simp only [beq_eq_false_iff_ne, ne_eq]; omega
            by_cases hk1 : 1 < k
            · have hk11 : (1 : Int) < (k : Int) := by omega
              obtain ⟨hcx, _⟩ := getU8 hown (show k - 1 < L by omega)
              have hne : (((ds.getD (k - 1) 0).toNat : Int) == 48) = false := by
                simp only [beq_eq_false_iff_ne, ne_eq]
                intro e
                rcases hlast with h | h
                · omega
                · exact h (UInt8.toNat_inj.1 (by show (ds.getD (k - 1) 0).toNat = 48; omega))
              generalize ds.getD (k - 1) 0 = dd at *
              clear hlast
              go_wp2_with fail
              go_loopw [11, 12] (fun iv jv wr2 => ∃ (p J : Nat) (L3 : List UInt8), iv = .int .i64 p ∧ jv = .int .i64 J ∧ Hid (J + p + 1 = k) ∧ wr2.ownsRow V.heap.size 5 1 (.slice (some ⟨g, 0, none⟩) k cb) k (L3.map mk8) ∧ Below V.heap.size V wr2 ∧ Hid (RevInv es p L3)) (fun iv jv _ => (RowKit.intOf jv - RowKit.intOf iv).toNat)
              case atStart => exact ⟨0, k - 1, es, rfl, by rw [show ((k - 1 : Nat) : Int) = (k : Int) - 1 by omega], Lib.hid (by omega), hownk, hbr, Lib.hid (RevInv.start es)⟩
              case round =>
                obtain ⟨p, J, L3, rfl, rfl, hJ, hown4, hb4, hrv⟩ := hrel
                clear hownk
                have hJ' := hJ.out
                have hbW4 := below_step hV hb4 hV.size
                by_cases hpJ : p < J
                · have hpJ1 : (p : Int) < (J : Int) := by omega
                  have e1 : es.length - 1 - p = J := by rw [hel'.out]; omega
                  obtain ⟨s1, s2, s3⟩ := hrv.out.step (by rw [hel'.out]; omega)
                  rw [e1] at s3
                  obtain ⟨u1, u2⟩ := getU8 hown4 (show p < k by omega)
                  obtain ⟨u3, u4⟩ := getU8 hown4 (show J < k by omega)
                  have hst := Lib.hid s3
                  have hos := fun x y => own_set2 hown4 p J x y hb4 hg
                  have hpk : (p : Int) < (k : Int) := by omega
                  have hJk : (J : Int) < (k : Int) := by omega
                  have hJp : J ≠ p := by omega
                  have hJp2 : p ≠ J := by omega
                  clear s1 s2 s3 e1 hJ'
                  generalize L3.getD p 0 = x at *
                  generalize L3.getD J 0 = y at *
                  go_wp2_with fail
                  go_region
                  all_goals
                    go_wp2_with fail
                    exact ⟨⟨p + 1, J - 1, (L3.set p y).set J x, by go_num, by rw [show ((J - 1 : Nat) : Int) = (J : Int) - 1 by omega], Lib.hid (by have := hJ.out; omega), (hos y x).1, (hos y x).2.drew, hst⟩, by simp [RowKit.intOf]; omega⟩
                · have hpJ1 : ¬ (p : Int) < (J : Int) := by omega
                  have hrev := hrv.out.done (by rw [hel'.out]; omega) (by rw [hel'.out]; omega)
                  have hl3 : L3.length = k := by rw [hrev, List.length_reverse]; exact hel'.out
                  have hcv : (convert 41 9 (.slice (some ⟨g, 0, none⟩) k cb)).run Tryd.prog wr = .ok (.string ⟨L3.toArray⟩) wr := by
                    have h := run_convert_bytes_back (P := Tryd.prog) wr 41 9 5 ⟨g, 0, none⟩ cb L3 Tryd.underlying41 Tryd.underlying5 Tryd.underlying9 (fun j hj => by
                      have hu := (getU8 hown4 (show j < k by omega)).1
                      rw [List.getD_eq_getElem?_getD, List.getElem?_eq_getElem hj, Option.getD_some] at hu
                      have ha : (⟨g, 0, none⟩ : Addr).add j = ⟨g, j, none⟩ := add_zero8 g j
                      rw [ha]; exact hu)
                    rwa [hl3] at h
                  have HR := Lib.hid hrev
                  clear hrev hl3 hJ'
                  go_wp2_with fail
                  go_ret
                  exact ⟨by show Ending.returned (.string ⟨L3.toArray⟩) = Ending.returned (strV (decI (val xs))); rw [hdec.out, HR.out]; rfl, hbW4⟩

            · have hk11 : ¬ (1 : Int) < (k : Int) := by omega
              clear hlast
              go_wp2_with fail
              go_loopw [11, 12] (fun iv jv wr2 => ∃ (p J : Nat) (L3 : List UInt8), iv = .int .i64 p ∧ jv = .int .i64 J ∧ Hid (J + p + 1 = k) ∧ wr2.ownsRow V.heap.size 5 1 (.slice (some ⟨g, 0, none⟩) k cb) k (L3.map mk8) ∧ Below V.heap.size V wr2 ∧ Hid (RevInv es p L3)) (fun iv jv _ => (RowKit.intOf jv - RowKit.intOf iv).toNat)
              case atStart => exact ⟨0, k - 1, es, rfl, by rw [show ((k - 1 : Nat) : Int) = (k : Int) - 1 by omega], Lib.hid (by omega), hownk, hbr, Lib.hid (RevInv.start es)⟩
              case round =>
                obtain ⟨p, J, L3, rfl, rfl, hJ, hown4, hb4, hrv⟩ := hrel
                clear hownk
                have hJ' := hJ.out
                have hbW4 := below_step hV hb4 hV.size
                by_cases hpJ : p < J
                · have hpJ1 : (p : Int) < (J : Int) := by omega
                  have e1 : es.length - 1 - p = J := by rw [hel'.out]; omega
                  obtain ⟨s1, s2, s3⟩ := hrv.out.step (by rw [hel'.out]; omega)
                  rw [e1] at s3
                  obtain ⟨u1, u2⟩ := getU8 hown4 (show p < k by omega)
                  obtain ⟨u3, u4⟩ := getU8 hown4 (show J < k by omega)
                  have hst := Lib.hid s3
                  have hos := fun x y => own_set2 hown4 p J x y hb4 hg
                  have hpk : (p : Int) < (k : Int) := by omega
                  have hJk : (J : Int) < (k : Int) := by omega
                  have hJp : J ≠ p := by omega
                  have hJp2 : p ≠ J := by omega
                  clear s1 s2 s3 e1 hJ'
                  generalize L3.getD p 0 = x at *
                  generalize L3.getD J 0 = y at *
                  go_wp2_with fail
                  go_region
                  all_goals
                    go_wp2_with fail
                    exact ⟨⟨p + 1, J - 1, (L3.set p y).set J x, by go_num, by rw [show ((J - 1 : Nat) : Int) = (J : Int) - 1 by omega], Lib.hid (by have := hJ.out; omega), (hos y x).1, (hos y x).2.drew, hst⟩, by simp [RowKit.intOf]; omega⟩
                · have hpJ1 : ¬ (p : Int) < (J : Int) := by omega
                  have hrev := hrv.out.done (by rw [hel'.out]; omega) (by rw [hel'.out]; omega)
                  have hl3 : L3.length = k := by rw [hrev, List.length_reverse]; exact hel'.out
                  have hcv : (convert 41 9 (.slice (some ⟨g, 0, none⟩) k cb)).run Tryd.prog wr = .ok (.string ⟨L3.toArray⟩) wr := by
                    have h := run_convert_bytes_back (P := Tryd.prog) wr 41 9 5 ⟨g, 0, none⟩ cb L3 Tryd.underlying41 Tryd.underlying5 Tryd.underlying9 (fun j hj => by
                      have hu := (getU8 hown4 (show j < k by omega)).1
                      rw [List.getD_eq_getElem?_getD, List.getElem?_eq_getElem hj, Option.getD_some] at hu
                      have ha : (⟨g, 0, none⟩ : Addr).add j = ⟨g, j, none⟩ := add_zero8 g j
                      rw [ha]; exact hu)
                    rwa [hl3] at h
                  have HR := Lib.hid hrev
                  clear hrev hl3 hJ'
                  go_wp2_with fail
                  go_ret
                  exact ⟨by show Ending.returned (.string ⟨L3.toArray⟩) = Ending.returned (strV (decI (val xs))); rw [hdec.out, HR.out]; rfl, hbW4⟩
theorem rtext_any : RText := by
  intro b A n c xs w hx hn
  cases b
  · exact rtext_fin A n c xs w hx hn
  · exact rtext_inf A n c xs w hx hn
end Go.Proofs.YtdpheomokeikbaaDoor
