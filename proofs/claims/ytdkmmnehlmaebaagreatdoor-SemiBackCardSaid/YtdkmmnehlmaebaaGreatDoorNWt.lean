
/- The walk of writing a number in decimal digits. Conditions: the digits can be read; the table of powers is laid. -/
import Derived.Test.YtdkmmnehlmaebaaGreatDoorNWp
import Derived.Test.YtdkmmnehlmaebaaGreatDoorFd
import Derived.Test.YtdkmmnehlmaebaaGreatDoorNTx
import Derived.Lib.OwnBridge
namespace Go.Proofs.YtdkmmnehlmaebaaGreatDoor.Na
open Go.RowKit Go.NT Go.Lib

def bs (l : List UInt8) : ByteArray := ⟨l.toArray⟩
def strV (l : List UInt8) : Value := .string (bs l)
theorem fmt40' (r : Int) (h0 : 0 ≤ r) (h1 : r < 1000000000) (w : World) (htab : Tab w) :
    Calls Tryz.prog 82 #[.int .u64 r, .int .i64 10] w fun e w' => ∃ (S : ByteArray) (m : Nat), e = .returned (.string S) ∧ Hid (S = bs (decDigits r.toNat)) ∧ S.size = m ∧ Hid (m = nDigits r.toNat) ∧ m ≤ 9 ∧ Below w.heap.size w w' := by
  obtain ⟨u, rfl⟩ : ∃ u : Nat, r = u := ⟨r.toNat, by omega⟩
  refine (fmt40 u (by omega) w htab).mono ?_
  rintro e w' ⟨rfl, hb⟩
  refine ⟨_, nDigits u, rfl, Lib.hid rfl, ?_, Lib.hid rfl, nd9 h1, hb⟩
  show (decDigits u).toArray.size = _
  simp [decDigits_length]
theorem repeat0 (cc : Nat) (h : cc ≤ 9) (w : World) :
    Calls Tryz.prog 83 #[.string ⟨#[48]⟩, .int .i64 cc] w fun e w' => ∃ (S : ByteArray), e = .returned (.string S) ∧ Hid (S = bs (List.replicate cc 48)) ∧ S.size = cc ∧ Below w.heap.size w w' := by
  refine (Tryz.strings_Repeat ⟨#[48]⟩ cc w (by omega) (by show 1 * cc ≤ _; omega)).mono ?_
  rintro e w' ⟨rfl, hb⟩
  have e1 : repeatL [48] cc = List.replicate cc 48 := by have := repeatL_replicate 48 1 cc; simpa using this
  refine ⟨_, rfl, Lib.hid ?_, ?_, hb⟩
  · show ByteArray.mk (repeatL [48] cc).toArray = _; rw [e1]; rfl
  · show (repeatL [48] cc).toArray.size = _; rw [e1]; simp
theorem i9 : ∃ i : TypeInfo, Tryz.prog.info? 9 = some i ∧ i.zero = some (.string ⟨#[]⟩) ∧ i.size = 1 ∧ i.bytes = 16 := by
  have h : (Tryz.prog.info? 9).map (fun i => (i.zero, i.size, i.bytes)) = some (some (.string ⟨#[]⟩), 1, 16) := by kernel_rfl
  cases hh : Tryz.prog.info? 9 with
  | none => rw [hh] at h; cases h
  | some i =>
    rw [hh] at h
    simp only [Option.map_some, Option.some.injEq, Prod.mk.injEq] at h
    exact ⟨i, rfl, h.1, h.2.1, h.2.2⟩
theorem Tab.drewN {w : World} (h : Tab w) (n : Nat) : Tab (w.drewN n) := h
def textM : Option Int → List UInt8
  | none => [105, 110, 102]
  | some v => decI v

/-- The pieces' row and the digits lie apart. -/
def Apart (AP AQ : Option Addr) (q : Nat) : Prop := ∀ g ad, AP = some ⟨g, 0, none⟩ → AQ = some ad → 0 < q → ad.block ≠ g
theorem Apart.none_ (AQ : Option Addr) (q : Nat) : Apart none AQ q := fun _ _ h => by cases h
theorem hcP9 {w : World} {base : Nat} {e : TypeId} {A : Option Addr} {n c : Nat} {xs : List Value} (hown : w.ownsRow base e 1 (.slice A n c) n xs) : n ≤ c := by
  obtain ⟨A', c', hv, hc, _⟩ := own_slice hown
  injection hv with _ _ hc'
  omega
theorem own_low {w : World} {base : Nat} {e : TypeId} {A : Option Addr} {n c : Nat} {xs : List Value} (h : w.ownsRow base e 1 (.slice A n c) n xs) : ∀ ad, A = some ad → ad.block < w.heap.size := by
  intro ad hA
  subst hA
  exact (h.lt ad.block rfl).2
theorem after_append {wr w2 w3 w4 : World} {A2 A4 AP : Option Addr} {q2 c2 p cP : Nat} {Q2 : List Int} {o : Obj} (hNV : NV w2 A2 q2 c2 Q2) (hfr : ∀ ad, A2 = some ad → 0 < q2 → wr.heap.size ≤ ad.block)
    (hlow : ∀ ad, AP = some ad → ad.block < wr.heap.size) (_hw : wr.heap.size ≤ w2.heap.size) (hb : Below w2.heap.size w2 w3) (hg : (w3.alloc o).grownBy w4 (Value.slice AP p cP).ownBlock)
    (hr : ∀ g, A4 = some ⟨g, 0, none⟩ → (∃ ad, AP = some ad ∧ ad.block = g) ∨ g = (w3.alloc o).heap.size) : NV w4 A2 q2 c2 Q2 ∧ Apart A4 A2 q2 := by
  have hs : w2.heap.size ≤ w3.heap.size := hb.size
  obtain ⟨h1, h2, h3, h4⟩ := hNV
  have ha : (w3.alloc o).heap.size = w3.heap.size + 1 := by simp
  refine ⟨⟨⟨h1.1, fun h0 => ?_⟩, h2, h3, h4⟩, fun g ad e1 e2 h0 => ?_⟩
  · obtain ⟨ad, e, hlt, hc⟩ := h1.2 h0
    have hfrr := hfr ad e h0
    have hgs := hg.size
    refine ⟨ad, e, by omega, fun j u hu => ?_⟩
    have hadd := block_of_add ad j
    rw [← hc j u hu]
    refine (World.cell?_of_block (w := w3.alloc o) (hg.block _ (by rw [hadd]; omega) ?_)).trans ?_
    · rw [hadd]
      intro he
      cases AP with
      | none => cases he
      | some ap =>
        have hlo := hlow ap rfl
        simp only [Value.ownBlock, Option.some.injEq] at he
        omega
    · rw [World.cell?_alloc_lt w3 o _ (by rw [hadd]; omega)]
      exact hb.cell (by rw [hadd]; exact hlt)
  · obtain ⟨ad', e, hlt, _⟩ := h1.2 h0
    have hee : ad' = ad := by rw [e] at e2; exact Option.some.inj e2
    subst hee
    have hfrr := hfr ad' e h0
    rcases hr g e1 with ⟨ap, hap, hb'⟩ | hg'
    · have hlo := hlow ap hap; omega
    · omega
theorem wpList_append_str {P : Program} (w : World) {ops : Array Oper} {rest : List Oper} {o : Oper} {a : Act} {Q : Exit → Act → World → Prop}
    (t e : TypeId) (i : TypeInfo) (z : Value) (bytes : Nat) (ht : P.underlying t = some (.slice e)) (hi : P.info? e = some i) (hz : i.zero = some z) (hsize : i.size = 1) (hby : i.bytes = bytes) (hzs : z.cells.size = 1)
    (hgd : o.guard = none) (s x : Operand) (ho : o.op = .call { callee := .builtin .append, args := #[s, x], argTypes := #[t, t] })
    (base : Nat) (A0 : Option Addr) (n c0 : Nat) (xs : List (List UInt8)) (hs : a.eval s = .slice A0 n c0) (hown : w.ownsRow base e 1 (.slice A0 n c0) n (xs.map strV))
    (B : Nat) (A : Option Addr) (m c : Nat) (ys : List (List UInt8)) (hx : a.eval x = .slice A m c) (hr : Reads w B 1 A m (ys.map strV))
    (h63 : n + m ≤ maxLen) (hbytes : (n + m) * bytes ≤ 140737488355328) (hbase : base ≤ w.heap.size)
    (h : ∀ (A' : Option Addr) (n' c' : Nat) (w' : World), Hid (n' = n + m) → Hid (n' ≤ c') → w'.ownsRow base e 1 (.slice A' n' c') n' ((xs ++ ys).map strV) → Below base w w' → w.grownBy w' (Value.slice A0 n c0).ownBlock → (∀ g, A' = some ⟨g, 0, none⟩ → (∃ ad, A0 = some ad ∧ ad.block = g) ∨ g = w.heap.size) → wpList P ops Q rest (a.put o.dst (.slice A' n' c')) w') : wpList P ops Q (o :: rest) a w := by
  refine wpList_append_any w hgd s x t ho base e i z 1 bytes ht hi hz hsize hby hzs (by omega) (.slice A0 n c0) n (xs.map strV) hs hown B A m c (ys.map strV) hx hr ?_ h63 hbytes hbase ?_
  · intro u hu
    obtain ⟨y, _, rfl⟩ := List.mem_map.1 hu
    rfl
  · intro v' w' hown' hg hor
    rw [← List.map_append] at hown'
    obtain ⟨A', c', rfl, hc, _⟩ := own_slice hown'
    refine h A' (n + m) c' w' (Lib.hid rfl) (Lib.hid hc) hown' ((Below.refl _ _).grown hg hbase (fun k hk => (hown.lt k hk).1)) hg ?_
    rintro g rfl
    rcases hor with h' | h'
    · cases A0 with
      | none => cases h'
      | some ad => exact .inl ⟨ad, rfl, (Option.some.inj h').symm⟩
    · exact .inr (Option.some.inj h')
theorem pad_str {S S2 : ByteArray} {m cc k : Nat} {l : List UInt8} (h : S = bs l) (h2 : S2 = bs (List.replicate cc 48)) (hm : m = k) (hc : (9 : Int) - (m : Int) = (cc : Int)) : S2 ++ S = bs (List.replicate (9 - k) 48 ++ l) := by
  subst hm h h2
  have : 9 - m = cc := by omega
  rw [this]
  apply ByteArray.ext
  simp [bs]
theorem own_kept {w w' : World} {base : Nat} {e : TypeId} {A : Option Addr} {n c : Nat} {xs : List Value} (h : w.ownsRow base e 1 (.slice A n c) n xs) (hb : Below w.heap.size w w') : w'.ownsRow base e 1 (.slice A n c) n xs := by
  refine ⟨h.1, h.2.imp id ?_⟩
  rintro ⟨g, cap, cur, e1, e2, e3, e4⟩
  exact ⟨g, cap, cur, e1, e2, by rw [hb.block g (Array.getElem?_eq_some_iff.1 e3).1]; exact e3, e4⟩
theorem lit_str (w : World) {S : ByteArray} {l : List UInt8} (h : S = bs l) : Reads (w.alloc (.cells #[.string S] 9)) (w.heap.size + 1) 1 (some ⟨w.heap.size, 0, none⟩) 1 ([l].map strV) := by
  subst h
  exact Reads.lit1 strV w l 9

set_option maxRecDepth 100000 in
set_option maxHeartbeats 1000000 in
theorem text_fin (A : Option Addr) (n c : Nat) (xs : List Int) (w : World) (hx : NV w A n c xs) (hn : n ≤ 1099511627776) (ht : Tab w) :
    Calls Tryz.prog 59 #[.agg #[.bool false, .slice A n c]] w fun e w' => e = .returned (strV (decI (val xs))) ∧ Below w.heap.size w w' := by
  obtain ⟨i9, hi, hz0, hz1, hz2⟩ := i9
  have hX := hx.strip
  have e1 := val_strip xs
  have nX := Norm.strip xs
  have lx2 := (strip_take xs).2
  rw [hx.len] at lx2
  obtain ⟨h1, h2, h3, h4⟩ := hx
  obtain ⟨X, hXd⟩ : ∃ X, X = strip xs := ⟨_, rfl⟩
  rw [← hXd] at hX e1 nX lx2
  have HV := Lib.hid (show strV (decI (val xs)) = strV (decI (val X)) by rw [e1])
  have HX := Lib.hid hXd.symm
  have uX := hX.2.2.1
  clear e1 hXd
  go_enter Tryz.func59, Tryz.ntmps59
  go_wp2_with (go_at_call 69; refine (whole_any A n c xs _ (h1.alloc (Nat.le_refl _) _) h2 h4).mono ?_; rintro e w' ⟨rfl, rfl⟩)
  rw [HX.out]
  go_loopw [3, 4] (fun pv dv wr => ∃ (P : List (List UInt8)) (Q : List Int) (AP AQ : Option Addr) (p q cP cQ : Nat), pv = .slice AP p cP ∧ wr.ownsRow w.heap.size 9 1 (.slice AP p cP) p (P.map strV) ∧ dv = .slice AQ q cQ ∧ NV wr AQ q cQ Q ∧ Below w.heap.size w wr ∧ q ≤ 1099511627776 ∧ Apart AP AQ q ∧ Hid (TextInv X P Q)) (fun pv _ _ => 2 * X.length + 2 - lenV pv)
  case atStart => exact ⟨[], X, none, A, 0, X.length, 0, c, rfl, ⟨by simp, .inl ⟨rfl, rfl⟩⟩, rfl, hX.alloc _, below_al (Below.refl _ _) _, by omega, Apart.none_ _ _, Lib.hid (TextInv.start uX nX)⟩
  case round =>
    obtain ⟨P, Q, AP, AQ, p, q, cP, cQ, rfl, hown, rfl, hNV, hb1, hQb, hap, hp⟩ := hrel
    have hPl : P.length = p := by have := hown.1; simpa using this
    have hQl := hNV.len
    by_cases hQ : Q.length = 0
    · have bq : ¬ ((0 : Int) < (q : Int)) := by omega
      by_cases hP : p = 0
      · have hcont : Q ≠ [] ∨ P = [] := .inr (List.eq_nil_of_length_eq_zero (by omega))
        have hPb : p ≤ 2 * X.length := by omega
        have bp : ((p : Int) == 0) = true := by rw [hP]; rfl
        obtain rfl : q = 0 := by omega
        clear hQ hP bq
        have hcP : p ≤ cP := by
          obtain ⟨A', c', hv, hc, _⟩ := own_slice hown
          injection hv with _ _ hc'
          omega
        have hlow := own_low hown
        have HPl := Lib.hid hPl
        clear hPl hQl
        go_wp2_with fail
        with_reducible refine (part_any AQ 0 cQ Q wr hNV hQb).mono ?_
        rintro e w2 ⟨A2, q2, c2, Q2, r, rfl, hNV2, hn2, hv2, hr0, hr1, hl2, hfr2, hb2⟩
        have hown2 : w2.ownsRow w.heap.size 9 1 (.slice AP p cP) p (P.map strV) := own_kept hown hb2
        have hb12 : Below w.heap.size w w2 := below_step hb1 hb2 hb1.size
        have hw1 : w.heap.size ≤ w2.heap.size := hb12.size
        have hw2 : wr.heap.size ≤ w2.heap.size := hb2.size
        have ht2 : Tab w2 := ht.below hb12
        have hq2l := hNV2.len
        by_cases hq2 : q2 = 0
        · subst hq2
          have hq2n : Q2 = [] := List.eq_nil_of_length_eq_zero hq2l
          have hfin := Lib.hid (hp.out.last (r := r) uX hcont (by have := hv2.out; rw [hq2n] at this; exact this))
          have HQ2 := Lib.hid hq2n
          clear hq2n hq2l
          go_wp2_with (first
            | (go_at_call 82; (with_reducible refine (fmt40' r hr0 hr1 _ ht2).mono ?_); rintro e w3 ⟨S, m, rfl, hS, hSm, hm, hm9, hb23⟩)
            | (at_builtin; refine wpList_append_str _ 95 9 i9 _ 16 Tryz.underlying95 hi hz0 hz1 hz2 rfl rfl (.tmp 38) (.tmp 40) rfl w.heap.size AP p cP P rfl ((own_kept hown2 hb23).alloc _) _ _ 1 _ [decDigits r.toNat] rfl (lit_str _ hS.out) (by unfold maxLen; omega) (by omega) (by have := hb23.size; simp; omega) ?_; intro A4 n4 c4 w4 hn4 hc4 hown4 hb4 hg4 hr4))
          obtain ⟨hnv4, hap4⟩ := after_append hNV2 hfr2 hlow hw2 hb23 hg4 hr4
          exact ⟨⟨P ++ [decDigits r.toNat], [], A4, A2, n4, 0, c4, c2, rfl, hown4, rfl, HQ2.out ▸ hnv4, (below_step hb12 hb23 hw1).trans ((below_al (Below.refl _ _) _).mono (by have := hb23.size; omega) |>.trans hb4), by omega, hap4, hfin⟩, by have := hn4.out; show 2 * X.length + 2 - n4 < 2 * X.length + 2 - p; omega⟩
        · exact absurd hl2 (by omega)
      · have bp : ((p : Int) == 0) = false := by rw [beq_eq_false_iff_ne]; omega
        have hPb : p ≤ 2 * X.length + 1 := by
          rcases hp.out.d with h | h | h
          · exact absurd (List.eq_nil_of_length_eq_zero hQ) h
          · rw [← hPl, h]; exact Nat.zero_le _
          · rw [← hPl]; exact h
        have hres := Lib.hid (hp.out.b (List.eq_nil_of_length_eq_zero hQ) (fun h => hP (by rw [← hPl, h]; rfl)))
        have hPpos : 0 < p := by omega
        have HPl := Lib.hid hPl
        clear hPl hQl
        clear hQ hP
        have hnn : (Value.slice AP p cP) ≠ .slice none 0 0 := by
          intro h
          injection h with _ h _
          omega
        obtain ⟨g, cap, hv, hbg, _, _, hcm, hlen, hH⟩ := Lib.holds_of_ownsRow (enc := encStr) (zs := P) hown hnn
        injection hv with hA _ hcap
        subst hA
        obtain rfl := hcap.symm
        have hrev := Tryz.slices_Reverse_string g 0 cap P wr hH (by omega)
        rw [hlen] at hrev
        have hlenD : (decI (val X)).length ≤ 10 * X.length + 1 := dec_len uX
        have HlenP := Lib.hid hlen
        have hX8 : X.length ≤ 1099511627776 := by omega
        clear hH hnn hlen
        go_wp2_with fail
        with_reducible refine hrev.mono ?_
        rintro e w2 ⟨rfl, k2, rfl⟩
        have hy : P.reverse.length = p := by rw [List.length_reverse]; exact HlenP.out
        have h1 := Lib.ownsRow_putRow (enc := encStr) (q := k2) (ys := P.reverse) hown hy (Nat.le_refl p)
        rw [List.take_of_length_le (Nat.le_of_eq hy)] at h1
        have hbb : Below w.heap.size w (Sort.putRow encStr (Sort.ahead wr k2) g 0 P.reverse.toArray) := Lib.below_putRow hb1 hbg
        clear hrev
        generalize Sort.putRow encStr (Sort.ahead wr k2) g 0 P.reverse.toArray = W2 at *
        have hbl : (P.reverse.map bs).length = p := by rw [List.length_map]; exact hy
        have hjf : Lib.join ((P.reverse.map bs).map (·.data.toList)) (⟨#[]⟩ : ByteArray).data.toList = decI (val X) := by
          rw [show (⟨#[]⟩ : ByteArray).data.toList = [] from rfl, join_flat, List.map_map, hres.out]
          congr 1
          refine (List.map_congr_left (g := id) fun x _ => ?_).trans (List.map_id _)
          simp [bs]
        have hj := Tryz.strings_Join g 0 cap (P.reverse.map bs) ⟨#[]⟩ W2 (fun j x hx => by
          have hjl : j < p := by have := (List.getElem?_eq_some_iff.1 hx).1; omega
          rw [Nat.zero_add, h1.cellAt j (by omega)]
          rw [List.getElem?_map] at hx ⊢
          cases hq : P.reverse[j]? with
          | none => rw [hq] at hx; cases hx
          | some y => rw [hq] at hx; injection hx with hx; subst hx; rfl) (by have := (own_low hown _ rfl); have := hbb.size; exact (own_low h1 _ rfl)) (by omega) (by rw [hbl]; exact hcP9 hown) (by rw [hjf]; omega)
        rw [hbl, hjf] at hj
        clear hjf hbl
        go_wp2_with (go_at_call 85; refine hj.mono ?_; rintro e w3 ⟨rfl, hb3⟩)
        go_ret
        exact ⟨by rw [HV.out]; rfl, below_step hbb hb3 hbb.size⟩
    · have bq : ((0 : Int) < (q : Int)) := by omega
      have hcont : Q ≠ [] ∨ P = [] := .inl (fun h => hQ (by rw [h]; rfl))
      have hPb : p ≤ 2 * X.length := hPl ▸ hp.out.count uX (fun h => hQ (by rw [h]; rfl))
      clear hQ
      have hcP : p ≤ cP := by
        obtain ⟨A', c', hv, hc, _⟩ := own_slice hown
        injection hv with _ _ hc'
        omega
      have hlow := own_low hown
      have HPl := Lib.hid hPl
      clear hPl hQl
      go_wp2_with fail
      with_reducible refine (part_any AQ q cQ Q wr hNV hQb).mono ?_
      rintro e w2 ⟨A2, q2, c2, Q2, r, rfl, hNV2, hn2, hv2, hr0, hr1, hl2, hfr2, hb2⟩
      have hown2 : w2.ownsRow w.heap.size 9 1 (.slice AP p cP) p (P.map strV) := own_kept hown hb2
      have hb12 : Below w.heap.size w w2 := below_step hb1 hb2 hb1.size
      have hw1 : w.heap.size ≤ w2.heap.size := hb12.size
      have hw2 : wr.heap.size ≤ w2.heap.size := hb2.size
      have ht2 : Tab w2 := ht.below hb12
      have hq2l := hNV2.len
      by_cases hq2 : q2 = 0
      · subst hq2
        have hq2n : Q2 = [] := List.eq_nil_of_length_eq_zero hq2l
        have hfin := Lib.hid (hp.out.last (r := r) uX hcont (by have := hv2.out; rw [hq2n] at this; exact this))
        have HQ2 := Lib.hid hq2n
        clear hq2n hq2l
        go_wp2_with (first
          | (go_at_call 82; (with_reducible refine (fmt40' r hr0 hr1 _ ht2).mono ?_); rintro e w3 ⟨S, m, rfl, hS, hSm, hm, hm9, hb23⟩)
          | (at_builtin; refine wpList_append_str _ 95 9 i9 _ 16 Tryz.underlying95 hi hz0 hz1 hz2 rfl rfl (.tmp 38) (.tmp 40) rfl w.heap.size AP p cP P rfl ((own_kept hown2 hb23).alloc _) _ _ 1 _ [decDigits r.toNat] rfl (lit_str _ hS.out) (by unfold maxLen; omega) (by omega) (by have := hb23.size; simp; omega) ?_; intro A4 n4 c4 w4 hn4 hc4 hown4 hb4 hg4 hr4))
        obtain ⟨hnv4, hap4⟩ := after_append hNV2 hfr2 hlow hw2 hb23 hg4 hr4
        exact ⟨⟨P ++ [decDigits r.toNat], [], A4, A2, n4, 0, c4, c2, rfl, hown4, rfl, HQ2.out ▸ hnv4, (below_step hb12 hb23 hw1).trans ((below_al (Below.refl _ _) _).mono (by have := hb23.size; omega) |>.trans hb4), by omega, hap4, hfin⟩, by have := hn4.out; show 2 * X.length + 2 - n4 < 2 * X.length + 2 - p; omega⟩
      · have hq2' : ((0 : Int) < (q2 : Int)) := by omega
        have hfin := Lib.hid (hp.out.more hcont hNV2.2.2.1 hn2.out (fun h => hq2 (by rw [← hq2l, h]; rfl)) hv2.out hr0 hr1)
        clear hq2 hq2l
        go_wp2_with (first
          | (go_at_call 82; (with_reducible refine (fmt40' r hr0 hr1 _ ht2).mono ?_); rintro e w3 ⟨S, m, rfl, hS, hSm, hm, hm9, hb3⟩; obtain ⟨cc, hcc⟩ : ∃ cc : Nat, (9:Int) - (m:Int) = (cc:Int) := ⟨9 - m, by omega⟩)
          | (go_at_call 83; (with_reducible refine (repeat0 cc (by omega) _).mono ?_); rintro e w5 ⟨S2, rfl, hS2, hS2m, hb5⟩; have hb23 : Below w2.heap.size w2 w5 := below_step hb3 hb5 hb3.size; have hSS := pad_str hS.out hS2.out hm.out hcc)
          | (at_builtin; refine wpList_append_str _ 95 9 i9 _ 16 Tryz.underlying95 hi hz0 hz1 hz2 rfl rfl (.tmp 38) (.tmp 40) rfl w.heap.size AP p cP P rfl ((own_kept hown2 hb23).alloc _) _ _ 1 _ [List.replicate (9 - nDigits r.toNat) 48 ++ decDigits r.toNat] rfl (Reads.lit1 strV _ _ _) (by unfold maxLen; omega) (by omega) (by have := hb23.size; simp; omega) ?_; intro A4 n4 c4 w4 hn4 hc4 hown4 hb4 hg4 hr4))
        obtain ⟨hnv4, hap4⟩ := after_append hNV2 hfr2 hlow hw2 hb23 hg4 hr4
        exact ⟨⟨P ++ [List.replicate (9 - nDigits r.toNat) 48 ++ decDigits r.toNat], Q2, A4, A2, n4, q2, c4, c2, rfl, hown4, rfl, hnv4, (below_step hb12 hb23 hw1).trans ((below_al (Below.refl _ _) _).mono (by have := hb23.size; omega) |>.trans hb4), by omega, hap4, hfin⟩, by have := hn4.out; show 2 * X.length + 2 - n4 < 2 * X.length + 2 - p; omega⟩
end Go.Proofs.YtdkmmnehlmaebaaGreatDoor.Na
