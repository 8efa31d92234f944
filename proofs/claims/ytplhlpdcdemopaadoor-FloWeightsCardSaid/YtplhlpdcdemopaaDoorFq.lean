/- The walk of the document's reading of a double: numbers. No condition. -/
import Derived.Test.YtplhlpdcdemopaaDoorFp
import Derived.Outline
namespace Go.Proofs.YtplhlpdcdemopaaDoor
open Go.RowKit Go.FT Go.FX Go.Lib

theorem small17 (S : ByteArray) {a : List UInt8} (ha : S.data.toList = a) (hs : S.size ≤ 9223372036854775807) (w : World) :
    Calls Tryd.prog 56 #[.string S, .int .i64 17] w fun e w' => ∃ (n : Int) (ok : Bool), e = .returned (.tuple #[.int .i64 n, .bool ok]) ∧ Hid (Sm a 17 n ok) ∧ -1000000000000000000 ≤ n ∧ n ≤ 1000000000000000000 ∧ Below w.heap.size w w' := by
  subst ha
  exact (small_any S 17 (by omega) (by omega) hs w).mono fun _ _ ⟨n, ok, h1, h2, h3⟩ => ⟨n, ok, h1, Lib.hid h2, h3⟩
theorem small5 (S : ByteArray) {a : List UInt8} (ha : S.data.toList = a) (hs : S.size ≤ 9223372036854775807) (w : World) :
    Calls Tryd.prog 56 #[.string S, .int .i64 5] w fun e w' => ∃ (n : Int) (ok : Bool), e = .returned (.tuple #[.int .i64 n, .bool ok]) ∧ Hid (Sm a 5 n ok) ∧ -1000000000000000000 ≤ n ∧ n ≤ 1000000000000000000 ∧ Below w.heap.size w w' := by
  subst ha
  exact (small_any S 5 (by omega) (by omega) hs w).mono fun _ _ ⟨n, ok, h1, h2, h3⟩ => ⟨n, ok, h1, Lib.hid h2, h3⟩
theorem ext_take (S : ByteArray) (k : Nat) : (S.extract 0 k).data.toList = S.data.toList.take k := by rw [extract_data]; simp
theorem ext_drop (S : ByteArray) (k : Nat) : (S.extract k S.size).data.toList = S.data.toList.drop k := by
  rw [extract_data, List.take_of_length_le]
  rw [List.length_drop, ← size_eq]; omega
theorem ext_size (S : ByteArray) (a b : Nat) (h : S.size ≤ 4000000000) : (S.extract a b).size ≤ 9223372036854775807 := by
  rw [size_eq, extract_data, List.length_take, List.length_drop, ← size_eq]; omega
theorem no_step {l : List UInt8} {k : Nat} (h : ∀ (j : Nat) (hj : j < l.length), j < k → l[j] ≠ 98) (hk : k < l.length) (hb : l[k] ≠ 98) : ∀ (j : Nat) (hj : j < l.length), j < k + 1 → l[j] ≠ 98 := by
  intro j hj hlt
  by_cases e : j = k
  · subst e; exact hb
  · exact h j hj (by omega)
theorem no_all {l : List UInt8} {k : Nat} (h : ∀ (j : Nat) (hj : j < l.length), j < k → l[j] ≠ 98) (hk : l.length ≤ k) : ∀ d ∈ l, d ≠ 98 := by
  intro d hd
  obtain ⟨j, hj, rfl⟩ := List.mem_iff_getElem.1 hd
  exact h j hj (by omega)

set_option maxRecDepth 100000 in
set_option maxHeartbeats 2000000 in
theorem rparseNumP (S : ByteArray) (hS : S.size ≤ 4000000000) (h0 : 0 < S.size) (hg : sgn S.data.toList = false) (h1 : rest S.data.toList ≠ sNan) (h2 : rest S.data.toList ≠ sInf) (w : World) :
    Calls Tryd.prog 18 #[.string S] w fun e w' => PR S w w' e := by
  have hneg := (sgn_at h0).trans hg
  have HNG : Hid (neg S.data.toList = false) := Lib.hid ((neg_sgn _).trans hg)
  have HT := Lib.hid (ext0 hg)
  have hts := hS
  clear hg
  have q1 := eqs HT.out (t := [110, 97, 110]) (decide_eq_false h1)
  have q2 := eqs HT.out (t := [105, 110, 102]) (decide_eq_false h2)
  have HH1 := Lib.hid h1
  have HH2 := Lib.hid h2
  clear h1 h2
  go_enter Tryd.func18, Tryd.ntmps18
  go_wp2
  go_loopw [7] (fun i wr => ∃ k : Nat, wr = w ∧ i = .int .i64 k ∧ k ≤ S.size ∧ Hid (∀ (j : Nat) (hj : j < S.data.toList.length), j < k → S.data.toList[j] ≠ 98)) (fun i _ => S.size - (RowKit.intOf i).toNat)
  case atStart => exact ⟨0, rfl, rfl, Nat.zero_le _, Lib.hid (fun j _ h => absurd h (Nat.not_lt_zero _))⟩
  case round =>
    obtain ⟨k, rfl, rfl, hk, hno⟩ := hrel
    by_cases hlt : k < S.size
    · have HL : Hid (k < S.data.toList.length) := Lib.hid (by rw [← size_eq]; exact hlt)
      have hget : Hid (S.data.toList[k]'HL.out = S[k]) := Lib.hid rfl
      by_cases hb : S[k].toNat = 98
      · have hb' : ((S[k].toNat : Int) != 98) = false := by rw [bne_eq_false_iff_eq]; omega
        have hcut := Lib.hid (cut_at HL.out hno.out (by rw [hget.out]; exact UInt8.toNat_inj.1 hb))
        clear hb
        have hx1 := ext_take S k
        have hx2 := ext_drop S (k + 1)
        have hy1 := ext_size S 0 k hts
        have hy2 := ext_size S (k + 1) S.size hts
        obtain ⟨XA, hXA⟩ : ∃ XA, S.extract 0 k = XA := ⟨_, rfl⟩
        obtain ⟨XC, hXC⟩ : ∃ XC, S.extract (k + 1) S.size = XC := ⟨_, rfl⟩
        rw [hXA] at hx1 hy1
        rw [hXC] at hx2 hy2
        have HX1 := Lib.hid hx1
        have HX2 := Lib.hid hx2
        clear hx1 hx2
        go_wp2_with (first
          | (go_at_call 56; (with_reducible refine (small17 XA HX1.out hy1 _).mono ?_); rintro e w1 ⟨m, p, rfl, HM1, hm1, hm2, hb1⟩)
          | (go_at_call 56; (with_reducible refine (small5 XC HX2.out hy2 _).mono ?_); rintro e w2 ⟨d0, q, rfl, HM2, hd1, hd2, hb2⟩; refine Hid.out ?_))
        refine Lib.hid ?_
        have HCU : Hid (cut (rest S.data.toList) [98] = (S.data.toList.take k, S.data.toList.drop (k + 1), true)) := Lib.hid (by rw [← HT.out]; exact hcut.out)
        have hb12 := hb1.trans (hb2.mono hb1.size)
        by_cases hgood : p = true ∧ q = true ∧ 0 ≤ m ∧ m ≤ 9007199254740992 ∧ -1074 ≤ d0 ∧ d0 ≤ 1023
        · obtain ⟨rfl, rfl, g1, g2, g3, g4⟩ := hgood
          obtain ⟨mn, rfl⟩ := Int.eq_ofNat_of_zero_le g1
          have hf := floatOfNat_F mn
          have t1 : decide ((9007199254740992 : Int) < mn) = false := decide_eq_false (by omega)
          have hmn : Hid (mn ≤ 2 * B) := Lib.hid (by unfold B; omega)
          clear g2 hm1 hm2 hd1 hd2
          go_wp2
          go_loopw [6, 10] (fun x e wr => ∃ (y : Nat) (d : Int), wr = w2 ∧ x = .float .f64 y ∧ e = .int .i64 d ∧ y ≤ INF ∧ -1074 ≤ d ∧ d ≤ 1023 ∧ Hid (ToI mn d0 y d)) (fun _ e _ => (RowKit.intOf e).toNat)
          case atStart => exact ⟨F mn, d0, rfl, rfl, rfl, Nat.le_of_lt (F_full hmn.out).1, g3, g4, Lib.hid (ToI.start d0 hmn.out)⟩
          case round =>
            obtain ⟨y, d, rfl, rfl, rfl, hy, hd0, hd1, hI⟩ := hrel
            by_cases hd : 0 < d
            · obtain ⟨y', em, hy', hyv⟩ := mul2_run hy
              have hs := Lib.hid (hI.out.up hd hyv)
              clear hyv
              go_wp2
              go_roundw
              case rel => exact ⟨y', d - 1, trivial, rfl, rfl, hy', by omega, by omega, hs⟩
              case measure => simp [RowKit.intOf]; omega
            · go_wp2
              go_loopw [6, 10] (fun x e wr' => ∃ (y : Nat) (d : Int), wr' = wr ∧ x = .float .f64 y ∧ e = .int .i64 d ∧ y ≤ INF ∧ -1074 ≤ d ∧ d ≤ 0 ∧ Hid (ToI mn d0 y d)) (fun _ e _ => (-(RowKit.intOf e)).toNat)
              case atStart => exact ⟨y, d, rfl, rfl, rfl, hy, hd0, by omega, hI⟩
              case round =>
                obtain ⟨z, d', rfl, rfl, rfl, hz, he0, he1, hJ⟩ := hrel
                by_cases hdn : d' < 0
                · obtain ⟨z', em, hz', hzv⟩ := div2_run hz
                  have hs := Lib.hid (hJ.out.down hdn hzv)
                  clear hzv
                  go_wp2
                  go_roundw
                  case rel => exact ⟨z', d' + 1, trivial, rfl, rfl, hz', by omega, by omega, hs⟩
                  case measure => simp [RowKit.intOf]; omega
                · obtain rfl : d' = 0 := by omega
                  have hdone := Lib.hid hJ.out.done
                  have hzs := lt_sgn hz
                  have en := fun w => neg_run (x := z) hzs w
                  have hyy := lt_w hz
                  have HKY := Lib.hid (pv_held hyy (key_ps HNG.out (key_ref HH1.out HH2.out HCU.out HM1.out HM2.out (by rw [Int.toNat_natCast]; exact hdone.out))))
                  clear hb1 hb2
                  go_wp2_with (first
                    | (go_at_call 31; (with_reducible refine (rtext_tr (z) hyy _).mono ?_); rintro e w3 ⟨S2, rfl, HS2, hb3⟩; have q3 := Lib.hid (text_eq (S := S) HS2.out))
                    | (go_at_call 28; (with_reducible refine (rbits_any (z) _ hyy).mono ?_); rintro e w' ⟨rfl, rfl⟩)
                    | (go_at_call 30; (with_reducible refine (rof_can (z) hyy _).mono ?_); rintro e w' ⟨rfl, rfl⟩))
                  · go_ret2
                    have hq : (!S2.toList == S.toList) = true := by assumption
                    rw [q3.out] at hq
                    exact pr_of (HKY.out.2 (of_decide_eq_false (by simpa using hq))) (hb12.trans (hb3.mono hb12.size))
                  · go_ret2
                    have hq : (!S2.toList == S.toList) = false := by assumption
                    rw [q3.out] at hq
                    exact pr_of (HKY.out.1 (of_decide_eq_true (by simpa using hq))) (hb12.trans (hb3.mono hb12.size))
        · have hdis : p = false ∨ q = false ∨ m < 0 ∨ 2 * (B : Int) < m ∨ d0 < -1074 ∨ 1023 < d0 := by
            cases p
            · exact Or.inl rfl
            · cases q
              · exact Or.inr (Or.inl rfl)
              · right; right; unfold B
                apply Classical.byContradiction
                intro hc
                exact hgood ⟨rfl, rfl, by omega, by omega, by omega, by omega⟩
          have HP : Hid (pv S.data.toList = (0, 16)) := Lib.hid (none_ref HH1.out HH2.out HCU.out HM1.out HM2.out hdis)
          clear hdis
          cases p
          · go_wp2
            go_ret2
            exact pr_of HP.out hb12
          · cases q
            · go_wp2
              go_ret2
              exact pr_of HP.out hb12
            · have hgood' : ¬ (0 ≤ m ∧ m ≤ 9007199254740992 ∧ -1074 ≤ d0 ∧ d0 ≤ 1023) := fun h => hgood ⟨rfl, rfl, h⟩
              clear hgood
              by_cases c1 : m < 0
              · clear hgood'
                go_wp2
                go_ret2
                exact pr_of HP.out hb12
              · by_cases c2 : 9007199254740992 < m
                · clear hgood'
                  go_wp2
                  go_ret2
                  exact pr_of HP.out hb12
                · by_cases c3 : d0 < -1074
                  · clear hgood'
                    go_wp2
                    go_ret2
                    exact pr_of HP.out hb12
                  · have c4 : 1023 < d0 := by omega
                    clear hgood'
                    go_wp2
                    go_ret2
                    exact pr_of HP.out hb12
      · have hb' : ((S[k].toNat : Int) != 98) = true := by rw [bne_iff_ne]; omega
        have hn2 := Lib.hid (no_step hno.out HL.out (by rw [hget.out]; intro e; exact hb (by rw [e]; rfl)))
        clear hb
        go_wp2
        go_roundw
        case rel => exact ⟨k + 1, trivial, by go_num, by omega, hn2⟩
        case measure => simp [RowKit.intOf]; omega
    · have hk2 : k = S.size := by omega
      have HP : Hid (pv S.data.toList = (0, 16)) := Lib.hid (none_nocut HH1.out HH2.out (by rw [← HT.out]; exact cut_none (no_all hno.out (by rw [← size_eq]; omega))))
      subst hk2
      go_wp2
      go_ret2
      exact pr_of HP.out (Below.refl _ _)
set_option maxRecDepth 100000 in
set_option maxHeartbeats 2000000 in
theorem rparseNumN (S : ByteArray) (hS : S.size ≤ 4000000000) (h0 : 0 < S.size) (hg : sgn S.data.toList = true) (h1 : rest S.data.toList ≠ sNan) (h2 : rest S.data.toList ≠ sInf) (w : World) :
    Calls Tryd.prog 18 #[.string S] w fun e w' => PR S w w' e := by
  have hneg := (sgn_at h0).trans hg
  have HNG : Hid (neg S.data.toList = true) := Lib.hid ((neg_sgn _).trans hg)
  have HT := Lib.hid (ext1 hg)
  have hts : (S.extract 1 S.size).size ≤ 4000000000 := by rw [size_eq] at hS ⊢; rw [HT.out]; have := trim_len S.data.toList; omega
  obtain ⟨TB, hTB⟩ : ∃ TB, S.extract 1 S.size = TB := ⟨_, rfl⟩
  rw [hTB] at HT hts
  clear hg
  have q1 := eqs HT.out (t := [110, 97, 110]) (decide_eq_false h1)
  have q2 := eqs HT.out (t := [105, 110, 102]) (decide_eq_false h2)
  have HH1 := Lib.hid h1
  have HH2 := Lib.hid h2
  clear h1 h2
  go_enter Tryd.func18, Tryd.ntmps18
  go_wp2
  go_loopw [7] (fun i wr => ∃ k : Nat, wr = w ∧ i = .int .i64 k ∧ k ≤ TB.size ∧ Hid (∀ (j : Nat) (hj : j < TB.data.toList.length), j < k → TB.data.toList[j] ≠ 98)) (fun i _ => TB.size - (RowKit.intOf i).toNat)
  case atStart => exact ⟨0, rfl, rfl, Nat.zero_le _, Lib.hid (fun j _ h => absurd h (Nat.not_lt_zero _))⟩
  case round =>
    obtain ⟨k, rfl, rfl, hk, hno⟩ := hrel
    by_cases hlt : k < TB.size
    · have HL : Hid (k < TB.data.toList.length) := Lib.hid (by rw [← size_eq]; exact hlt)
      have hget : Hid (TB.data.toList[k]'HL.out = TB[k]) := Lib.hid rfl
      by_cases hb : TB[k].toNat = 98
      · have hb' : ((TB[k].toNat : Int) != 98) = false := by rw [bne_eq_false_iff_eq]; omega
        have hcut := Lib.hid (cut_at HL.out hno.out (by rw [hget.out]; exact UInt8.toNat_inj.1 hb))
        clear hb
        have hx1 := ext_take TB k
        have hx2 := ext_drop TB (k + 1)
        have hy1 := ext_size TB 0 k hts
        have hy2 := ext_size TB (k + 1) TB.size hts
        obtain ⟨XA, hXA⟩ : ∃ XA, TB.extract 0 k = XA := ⟨_, rfl⟩
        obtain ⟨XC, hXC⟩ : ∃ XC, TB.extract (k + 1) TB.size = XC := ⟨_, rfl⟩
        rw [hXA] at hx1 hy1
        rw [hXC] at hx2 hy2
        have HX1 := Lib.hid hx1
        have HX2 := Lib.hid hx2
        clear hx1 hx2
        go_wp2_with (first
          | (go_at_call 56; (with_reducible refine (small17 XA HX1.out hy1 _).mono ?_); rintro e w1 ⟨m, p, rfl, HM1, hm1, hm2, hb1⟩)
          | (go_at_call 56; (with_reducible refine (small5 XC HX2.out hy2 _).mono ?_); rintro e w2 ⟨d0, q, rfl, HM2, hd1, hd2, hb2⟩; refine Hid.out ?_))
        refine Lib.hid ?_
        have HCU : Hid (cut (rest S.data.toList) [98] = (TB.data.toList.take k, TB.data.toList.drop (k + 1), true)) := Lib.hid (by rw [← HT.out]; exact hcut.out)
        have hb12 := hb1.trans (hb2.mono hb1.size)
        by_cases hgood : p = true ∧ q = true ∧ 0 ≤ m ∧ m ≤ 9007199254740992 ∧ -1074 ≤ d0 ∧ d0 ≤ 1023
        · obtain ⟨rfl, rfl, g1, g2, g3, g4⟩ := hgood
          obtain ⟨mn, rfl⟩ := Int.eq_ofNat_of_zero_le g1
          have hf := floatOfNat_F mn
          have t1 : decide ((9007199254740992 : Int) < mn) = false := decide_eq_false (by omega)
          have hmn : Hid (mn ≤ 2 * B) := Lib.hid (by unfold B; omega)
          clear g2 hm1 hm2 hd1 hd2
          go_wp2
          go_loopw [6, 10] (fun x e wr => ∃ (y : Nat) (d : Int), wr = w2 ∧ x = .float .f64 y ∧ e = .int .i64 d ∧ y ≤ INF ∧ -1074 ≤ d ∧ d ≤ 1023 ∧ Hid (ToI mn d0 y d)) (fun _ e _ => (RowKit.intOf e).toNat)
          case atStart => exact ⟨F mn, d0, rfl, rfl, rfl, Nat.le_of_lt (F_full hmn.out).1, g3, g4, Lib.hid (ToI.start d0 hmn.out)⟩
          case round =>
            obtain ⟨y, d, rfl, rfl, rfl, hy, hd0, hd1, hI⟩ := hrel
            by_cases hd : 0 < d
            · obtain ⟨y', em, hy', hyv⟩ := mul2_run hy
              have hs := Lib.hid (hI.out.up hd hyv)
              clear hyv
              go_wp2
              go_roundw
              case rel => exact ⟨y', d - 1, trivial, rfl, rfl, hy', by omega, by omega, hs⟩
              case measure => simp [RowKit.intOf]; omega
            · go_wp2
              go_loopw [6, 10] (fun x e wr' => ∃ (y : Nat) (d : Int), wr' = wr ∧ x = .float .f64 y ∧ e = .int .i64 d ∧ y ≤ INF ∧ -1074 ≤ d ∧ d ≤ 0 ∧ Hid (ToI mn d0 y d)) (fun _ e _ => (-(RowKit.intOf e)).toNat)
              case atStart => exact ⟨y, d, rfl, rfl, rfl, hy, hd0, by omega, hI⟩
              case round =>
                obtain ⟨z, d', rfl, rfl, rfl, hz, he0, he1, hJ⟩ := hrel
                by_cases hdn : d' < 0
                · obtain ⟨z', em, hz', hzv⟩ := div2_run hz
                  have hs := Lib.hid (hJ.out.down hdn hzv)
                  clear hzv
                  go_wp2
                  go_roundw
                  case rel => exact ⟨z', d' + 1, trivial, rfl, rfl, hz', by omega, by omega, hs⟩
                  case measure => simp [RowKit.intOf]; omega
                · obtain rfl : d' = 0 := by omega
                  have hdone := Lib.hid hJ.out.done
                  have hzs := lt_sgn hz
                  have en := fun w => neg_run (x := z) hzs w
                  have hyy := sg_lt (n := true) hzs
                  have HKY := Lib.hid (pv_held hyy (key_sg HNG.out (key_ref HH1.out HH2.out HCU.out HM1.out HM2.out (by rw [Int.toNat_natCast]; exact hdone.out))))
                  clear hb1 hb2
                  go_wp2_with (first
                    | (go_at_call 31; (with_reducible refine (rtext_tr (sg true z) hyy _).mono ?_); rintro e w3 ⟨S2, rfl, HS2, hb3⟩; have q3 := Lib.hid (text_eq (S := S) HS2.out))
                    | (go_at_call 28; (with_reducible refine (rbits_any (sg true z) _ hyy).mono ?_); rintro e w' ⟨rfl, rfl⟩)
                    | (go_at_call 30; (with_reducible refine (rof_can (sg true z) hyy _).mono ?_); rintro e w' ⟨rfl, rfl⟩))
                  · go_ret2
                    have hq : (!S2.toList == S.toList) = true := by assumption
                    rw [q3.out] at hq
                    exact pr_of (HKY.out.2 (of_decide_eq_false (by simpa using hq))) (hb12.trans (hb3.mono hb12.size))
                  · go_ret2
                    have hq : (!S2.toList == S.toList) = false := by assumption
                    rw [q3.out] at hq
                    exact pr_of (HKY.out.1 (of_decide_eq_true (by simpa using hq))) (hb12.trans (hb3.mono hb12.size))
        · have hdis : p = false ∨ q = false ∨ m < 0 ∨ 2 * (B : Int) < m ∨ d0 < -1074 ∨ 1023 < d0 := by
            cases p
            · exact Or.inl rfl
            · cases q
              · exact Or.inr (Or.inl rfl)
              · right; right; unfold B
                apply Classical.byContradiction
                intro hc
                exact hgood ⟨rfl, rfl, by omega, by omega, by omega, by omega⟩
          have HP : Hid (pv S.data.toList = (0, 16)) := Lib.hid (none_ref HH1.out HH2.out HCU.out HM1.out HM2.out hdis)
          clear hdis
          cases p
          · go_wp2
            go_ret2
            exact pr_of HP.out hb12
          · cases q
            · go_wp2
              go_ret2
              exact pr_of HP.out hb12
            · have hgood' : ¬ (0 ≤ m ∧ m ≤ 9007199254740992 ∧ -1074 ≤ d0 ∧ d0 ≤ 1023) := fun h => hgood ⟨rfl, rfl, h⟩
              clear hgood
              by_cases c1 : m < 0
              · clear hgood'
                go_wp2
                go_ret2
                exact pr_of HP.out hb12
              · by_cases c2 : 9007199254740992 < m
                · clear hgood'
                  go_wp2
                  go_ret2
                  exact pr_of HP.out hb12
                · by_cases c3 : d0 < -1074
                  · clear hgood'
                    go_wp2
                    go_ret2
                    exact pr_of HP.out hb12
                  · have c4 : 1023 < d0 := by omega
                    clear hgood'
                    go_wp2
                    go_ret2
                    exact pr_of HP.out hb12
      · have hb' : ((TB[k].toNat : Int) != 98) = true := by rw [bne_iff_ne]; omega
        have hn2 := Lib.hid (no_step hno.out HL.out (by rw [hget.out]; intro e; exact hb (by rw [e]; rfl)))
        clear hb
        go_wp2
        go_roundw
        case rel => exact ⟨k + 1, trivial, by go_num, by omega, hn2⟩
        case measure => simp [RowKit.intOf]; omega
    · have hk2 : k = TB.size := by omega
      have HP : Hid (pv S.data.toList = (0, 16)) := Lib.hid (none_nocut HH1.out HH2.out (by rw [← HT.out]; exact cut_none (no_all hno.out (by rw [← size_eq]; omega))))
      subst hk2
      go_wp2
      go_ret2
      exact pr_of HP.out (Below.refl _ _)
end Go.Proofs.YtplhlpdcdemopaaDoor
