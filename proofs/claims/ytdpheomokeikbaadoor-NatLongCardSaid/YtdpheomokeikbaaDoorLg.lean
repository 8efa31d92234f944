/- The walk of the law NatLong. Condition: the table of powers is laid. -/
import Derived.Test.YtdpheomokeikbaaDoorPa
import Derived.Laws.IdiomStrings
namespace Go.Proofs.YtdpheomokeikbaaDoor
open Go.RowKit Go.NT Go.Lib

theorem conv1 (W : World) (g : Nat) (d : UInt8) (z : Int) (hz : z = (d.toNat : Int)) (hc : W.cell? ⟨g, 0, none⟩ = some (.int .u8 z)) :
    (convert 41 9 (.slice (some ⟨g, 0, none⟩) 1 1)).run Tryd.prog W = .ok (.string ⟨#[d]⟩) W := by
  refine run_convert_bytes_back W 41 9 5 ⟨g, 0, none⟩ 1 [d] Tryd.underlying41 Tryd.underlying5 Tryd.underlying9 ?_
  intro j hj
  obtain rfl : j = 0 := by simpa using hj
  subst hz
  exact hc
theorem inf_no {S : ByteArray} (h : ∀ d ∈ S.data.toList, dig d) : (S.toList == [105, 110, 102]) = false := by
  rw [ByteArray.toList_eq]
  simp only [beq_eq_false_iff_ne, ne_eq]
  intro e
  have := h 105 (by rw [e]; simp)
  exact absurd this.2 (by decide)
theorem own_text {S : ByteArray} (h0 : 0 < S.size) (h48 : ((S[0]'h0).toNat == 48) = false) (h : ∀ d ∈ S.data.toList, dig d) : ((bs (decI (dval S.data.toList))).toList == S.toList) = true := by
  rw [ByteArray.toList_eq, ByteArray.toList_eq]
  have hl : S.data.toList ≠ [] := fun e => by
    have : S.data.toList.length = S.size := by simp
    rw [e] at this
    simp at this
    omega
  have hh : S.data.toList.head? ≠ some 48 := by
    intro e
    have e0 : S.data.toList[0]'(by simpa using h0) = S[0]'h0 := rfl
    rw [List.head?_eq_getElem?, List.getElem?_eq_getElem (by simpa using h0), e0] at e
    have := Option.some.inj e
    rw [this] at h48
    exact absurd h48 (by decide)
  rw [show (bs (decI (dval S.data.toList))).data.toList = decI (dval S.data.toList) from rfl, decI_dval _ hl h hh]
  simp
theorem more_list (S : ByteArray) (d : UInt8) : (S ++ (⟨#[d]⟩ : ByteArray)).data.toList = S.data.toList ++ [d] := by simp
theorem digS_step {S : ByteArray} {k : Nat} (h : k < S.size) (hp : ∀ d ∈ S.data.toList.take k, dig d) (h1 : ¬ ((S[k]'h).toNat : Int) < 48) (h2 : ¬ (57 : Int) < ((S[k]'h).toNat : Int)) : ∀ d ∈ S.data.toList.take (k + 1), dig d := by
  intro d hd
  rw [List.take_succ_eq_append_getElem (by simpa using h)] at hd
  rcases List.mem_append.1 hd with hd | hd
  · exact hp d hd
  · simp only [List.mem_singleton] at hd
    subst hd
    have e : S.data.toList[k]'(by simpa using h) = S[k]'h := rfl
    rw [e]
    unfold dig
    omega
set_option maxRecDepth 100000 in
set_option maxHeartbeats 8000000 in
theorem long_a (S : ByteArray) (c : Int) (w : World) (ht : Tab w) (hp0 : 0 < S.size) (h720 : S.size ≤ 720) (h48 : ((S[0]'hp0).toNat == 48) = false) (h700 : 700 < S.size) :
    Calls Tryd.prog 7 #[.string S, .int .i64 c] w fun e w' => e = .returned (.bool true) ∧ Below w.heap.size w w' := by
  have g1 : ((S.size : Int) == 0) = false := by simp only [beq_eq_false_iff_ne, ne_eq]; omega
  have g2 : ¬ (720 : Int) < (S.size : Int) := by omega
  have g3 : (((S[0]'hp0).toNat : Int) == 48) = false := by simp only [beq_eq_false_iff_ne, ne_eq] at h48 ⊢; omega
  have g4 : (0 : Int) < (S.size : Int) := by omega
  have HS : Hid (S.data.toList.length = S.size) := Lib.hid (by simp)
  go_enter Tryd.func7, Tryd.ntmps7
  go_wp2_with fail
  go_loop [5] (fun v => ∃ k : Nat, v = .int .i64 k ∧ k ≤ S.size ∧ Hid (∀ d ∈ S.data.toList.take k, dig d)) (fun v => S.size - (RowKit.intOf v).toNat)
  case atStart => exact ⟨0, rfl, Nat.zero_le _, Lib.hid (fun d h => by cases h)⟩
  case round =>
    obtain ⟨k, rfl, hk, hp⟩ := hrel
    by_cases hlt : k < S.size
    · have hlt1 : (k : Int) < (S.size : Int) := by omega
      by_cases hd1 : ((S[k]'hlt).toNat : Int) < 48
      · go_wp2_with (go_at_call 11; (with_reducible refine (awake_any _ ht).mono ?_); rintro e w2 ⟨rfl, hb2⟩)
        go_ret
        exact ⟨rfl, hb2⟩
      · by_cases hd2 : (57 : Int) < ((S[k]'hlt).toNat : Int)
        · go_wp2_with (go_at_call 11; (with_reducible refine (awake_any _ ht).mono ?_); rintro e w2 ⟨rfl, hb2⟩)
          go_ret
          exact ⟨rfl, hb2⟩
        · have hst := Lib.hid (digS_step hlt hp.out hd1 hd2)
          go_wp2_with fail
          exact ⟨⟨k + 1, by go_num, by omega, hst⟩, by simp [RowKit.intOf]; omega⟩
    · obtain rfl : k = S.size := by omega
      have hlt1 : ¬ (S.size : Int) < (S.size : Int) := by omega
      have hd := Lib.hid (show ∀ d ∈ S.data.toList, dig d by have := hp.out; rwa [List.take_of_length_le (by rw [HS.out]; omega)] at this)
      clear hp
      have g5 : (700 : Int) < (S.size : Int) := by omega
      go_wp2_with (first
        | (go_at_call 25; (with_reducible refine (parse_big S _ h700 (by omega)).mono ?_); rintro e w2 ⟨rfl, hb2⟩)
        | (go_at_call 11; (with_reducible refine (awake_any _ (ht.below (below_al hb2 _))).mono ?_); rintro e w3 ⟨rfl, hb3⟩))
      go_ret
      exact ⟨rfl, below_step (below_al hb2 _) hb3 (below_al hb2 _).size⟩
set_option maxRecDepth 100000 in
set_option maxHeartbeats 8000000 in
theorem long_b (S : ByteArray) (c : Int) (w : World) (ht : Tab w) (hp0 : 0 < S.size) (h720 : S.size ≤ 720) (h48 : ((S[0]'hp0).toNat == 48) = false) (h700 : ¬ 700 < S.size) (g6 : ((S.size : Int) == 700) = true) (T : ByteArray) (hT : Hid (T = bs (decI (dval S.data.toList)))) (HC : Hid ((∀ d ∈ S.data.toList, dig d) → (S.toList == [105, 110, 102]) = false ∧ (T.toList == S.toList) = true)) (y : Int) (hy0 : 0 ≤ y) (hy9 : y ≤ 9) (e1 : (wrap64 (c.tmod 10 + 10)).tmod 10 = y) (d : UInt8) (hdy : 48 + y = (d.toNat : Int)) (S2 : ByteArray) (hS2 : S ++ (⟨#[d]⟩ : ByteArray) = S2) (hz2 : 700 < S2.size) (hz3 : S2.size ≤ 721) :
    Calls Tryd.prog 7 #[.string S, .int .i64 c] w fun e w' => e = .returned (.bool true) ∧ Below w.heap.size w w' := by
  have g1 : ((S.size : Int) == 0) = false := by simp only [beq_eq_false_iff_ne, ne_eq]; omega
  have g2 : ¬ (720 : Int) < (S.size : Int) := by omega
  have g3 : (((S[0]'hp0).toNat : Int) == 48) = false := by simp only [beq_eq_false_iff_ne, ne_eq] at h48 ⊢; omega
  have g4 : (0 : Int) < (S.size : Int) := by omega
  have HS : Hid (S.data.toList.length = S.size) := Lib.hid (by simp)
  go_enter Tryd.func7, Tryd.ntmps7
  go_wp2_with fail
  go_loop [5] (fun v => ∃ k : Nat, v = .int .i64 k ∧ k ≤ S.size ∧ Hid (∀ d ∈ S.data.toList.take k, dig d)) (fun v => S.size - (RowKit.intOf v).toNat)
  case atStart => exact ⟨0, rfl, Nat.zero_le _, Lib.hid (fun d h => by cases h)⟩
  case round =>
    obtain ⟨k, rfl, hk, hp⟩ := hrel
    by_cases hlt : k < S.size
    · have hlt1 : (k : Int) < (S.size : Int) := by omega
      by_cases hd1 : ((S[k]'hlt).toNat : Int) < 48
      · go_wp2_with (go_at_call 11; (with_reducible refine (awake_any _ ht).mono ?_); rintro e w2 ⟨rfl, hb2⟩)
        go_ret
        exact ⟨rfl, hb2⟩
      · by_cases hd2 : (57 : Int) < ((S[k]'hlt).toNat : Int)
        · go_wp2_with (go_at_call 11; (with_reducible refine (awake_any _ ht).mono ?_); rintro e w2 ⟨rfl, hb2⟩)
          go_ret
          exact ⟨rfl, hb2⟩
        · have hst := Lib.hid (digS_step hlt hp.out hd1 hd2)
          go_wp2_with fail
          exact ⟨⟨k + 1, by go_num, by omega, hst⟩, by simp [RowKit.intOf]; omega⟩
    · obtain rfl : k = S.size := by omega
      have hlt1 : ¬ (S.size : Int) < (S.size : Int) := by omega
      have hd := Lib.hid (show ∀ d ∈ S.data.toList, dig d by have := hp.out; rwa [List.take_of_length_le (by rw [HS.out]; omega)] at this)
      clear hp
      have g5 : ¬ (700 : Int) < (S.size : Int) := by omega
      obtain ⟨hinf, hTS⟩ := HC.out hd.out
      go_wp2_with (first
        | (go_at_call 25; (with_reducible refine (parse_dig S _ ht h700 hinf hd.out true T hT hTS).mono ?_); rintro e w2 ⟨b2, A2, n2, c2, r2, rfl, hv2, hm2, hr2, hi2, hn2, hb2⟩; have hcv := conv1 ((w2.alloc (Obj.cells #[Value.bool b2, Value.slice A2 n2 c2] 24)).alloc (Obj.cells #[Value.int IntKind.u8 (d.toNat : Int)] 5)) (w2.heap.size + 1) d (d.toNat : Int) rfl (by go_simp); have hb3 := below_al (below_al hb2 (Obj.cells #[Value.bool b2, Value.slice A2 n2 c2] 24)) (Obj.cells #[Value.int IntKind.u8 (d.toNat : Int)] 5))
        | (go_at_call 25; (with_reducible refine (parse_big S2 _ hz2 (by omega)).mono ?_); rintro e w4 ⟨rfl, hb4⟩; have hb5 := below_al (below_step hb3 hb4 hb3.size) (Obj.cells #[Value.bool false, Value.slice none 0 0] 24))
        | (go_at_call 11; (with_reducible refine (awake_any _ (ht.below hb5)).mono ?_); rintro e w3 ⟨rfl, hb6⟩))
      go_ret
      exact ⟨rfl, below_step hb5 hb6 hb5.size⟩
theorem addM_mk (v y : Int) : some (v * 10 + y) = addM (mulM (some v) (some 10)) (some y) := rfl
set_option maxRecDepth 100000 in
set_option maxHeartbeats 8000000 in
theorem long_c (S : ByteArray) (c : Int) (w : World) (ht : Tab w) (hp0 : 0 < S.size) (h720 : S.size ≤ 720) (h48 : ((S[0]'hp0).toNat == 48) = false) (h700 : ¬ 700 < S.size) (g6 : ((S.size : Int) == 700) = false) (T : ByteArray) (hT : Hid (T = bs (decI (dval S.data.toList)))) (HC : Hid ((∀ d ∈ S.data.toList, dig d) → (S.toList == [105, 110, 102]) = false ∧ (T.toList == S.toList) = true)) (y : Int) (hy0 : 0 ≤ y) (hy9 : y ≤ 9) (e1 : (wrap64 (c.tmod 10 + 10)).tmod 10 = y) (d : UInt8) (hdy : 48 + y = (d.toNat : Int)) (S2 : ByteArray) (hS2 : S ++ (⟨#[d]⟩ : ByteArray) = S2) (hz2 : ¬ 700 < S2.size) (T2 : ByteArray) (hT2 : Hid (T2 = bs (decI (dval S2.data.toList)))) (HC2 : Hid ((∀ d ∈ S.data.toList, dig d) → (S2.toList == [105, 110, 102]) = false ∧ (∀ d ∈ S2.data.toList, dig d) ∧ (T2.toList == S2.toList) = true ∧ dval S2.data.toList = dval S.data.toList * 10 + y)) :
    Calls Tryd.prog 7 #[.string S, .int .i64 c] w fun e w' => e = .returned (.bool true) ∧ Below w.heap.size w w' := by
  have g1 : ((S.size : Int) == 0) = false := by simp only [beq_eq_false_iff_ne, ne_eq]; omega
  have g2 : ¬ (720 : Int) < (S.size : Int) := by omega
  have g3 : (((S[0]'hp0).toNat : Int) == 48) = false := by simp only [beq_eq_false_iff_ne, ne_eq] at h48 ⊢; omega
  have g4 : (0 : Int) < (S.size : Int) := by omega
  have HS : Hid (S.data.toList.length = S.size) := Lib.hid (by simp)
  go_enter Tryd.func7, Tryd.ntmps7
  go_wp2_with fail
  go_loop [5] (fun v => ∃ k : Nat, v = .int .i64 k ∧ k ≤ S.size ∧ Hid (∀ d ∈ S.data.toList.take k, dig d)) (fun v => S.size - (RowKit.intOf v).toNat)
  case atStart => exact ⟨0, rfl, Nat.zero_le _, Lib.hid (fun d h => by cases h)⟩
  case round =>
    obtain ⟨k, rfl, hk, hp⟩ := hrel
    by_cases hlt : k < S.size
    · have hlt1 : (k : Int) < (S.size : Int) := by omega
      by_cases hd1 : ((S[k]'hlt).toNat : Int) < 48
      · go_wp2_with (go_at_call 11; (with_reducible refine (awake_any _ ht).mono ?_); rintro e w2 ⟨rfl, hb2⟩)
        go_ret
        exact ⟨rfl, hb2⟩
      · by_cases hd2 : (57 : Int) < ((S[k]'hlt).toNat : Int)
        · go_wp2_with (go_at_call 11; (with_reducible refine (awake_any _ ht).mono ?_); rintro e w2 ⟨rfl, hb2⟩)
          go_ret
          exact ⟨rfl, hb2⟩
        · have hst := Lib.hid (digS_step hlt hp.out hd1 hd2)
          go_wp2_with fail
          exact ⟨⟨k + 1, by go_num, by omega, hst⟩, by simp [RowKit.intOf]; omega⟩
    · obtain rfl : k = S.size := by omega
      have hlt1 : ¬ (S.size : Int) < (S.size : Int) := by omega
      have hd := Lib.hid (show ∀ d ∈ S.data.toList, dig d by have := hp.out; rwa [List.take_of_length_le (by rw [HS.out]; omega)] at this)
      clear hp
      have g5 : ¬ (700 : Int) < (S.size : Int) := by omega
      obtain ⟨hinf, hTS⟩ := HC.out hd.out
      obtain ⟨hinf2, hdd2, hTS2, hDV0⟩ := HC2.out hd.out
      have HD2 := Lib.hid hdd2
      have hDV := Lib.hid hDV0
      clear hdd2 hDV0
      have hwy : IntKind.u64.wrap y = y := IntWalk.u64_in _ (by omega)
      have hwy2 : y % 18446744073709551616 = y := by omega
      have hS : Hid (strV (textM (some (dval S.data.toList))) = .string T) := Lib.hid (by rw [hT.out]; rfl)
      go_wp2_with (first
        | (go_at_call 25; (with_reducible refine (parse_dig S _ ht h700 hinf hd.out true T hT hTS).mono ?_); rintro e w2 ⟨b2, A2, n2, c2, r2, rfl, hv2, hm2, hr2, hi2, hn2, hb2⟩; have hcv := conv1 ((w2.alloc (Obj.cells #[Value.bool b2, Value.slice A2 n2 c2] 24)).alloc (Obj.cells #[Value.int IntKind.u8 (d.toNat : Int)] 5)) (w2.heap.size + 1) d (d.toNat : Int) rfl (by go_simp); have hb3 := below_al (below_al hb2 (Obj.cells #[Value.bool b2, Value.slice A2 n2 c2] 24)) (Obj.cells #[Value.int IntKind.u8 (d.toNat : Int)] 5))
        | (go_at_call 25; (with_reducible refine (parse_dig S2 _ (ht.below hb3) hz2 hinf2 HD2.out true T2 hT2 hTS2).mono ?_); rintro e w4 ⟨b3, A3, n3, c3, r3, rfl, hv3, hm3, hr3, hi3, hn3, hb4⟩; have hb5 := below_al (below_step hb3 hb4 hb3.size) (Obj.cells #[Value.bool b3, Value.slice A3 n3 c3] 24)))
      have hG : G w (w4.alloc (Obj.cells #[Value.bool b3, Value.slice A3 n3 c3] 24)) := ⟨hb5, ht.below hb5⟩
      have ka := (((Box.made hv2 b2).alloc (Obj.cells #[Value.int IntKind.u8 (d.toNat : Int)] 5)).go hb4).alloc (Obj.cells #[Value.bool b3, Value.slice A3 n3 c3] 24)
      have kb := Box.made hv3 b3
      have pa := ka.1
      have qa := ka.2.1
      have pb := kb.1
      have qb := kb.2.1
      clear hcv hb2 hb3 hb4 hb5 hv2 hv3 ht
      generalize (w4.alloc (Obj.cells #[Value.bool b3, Value.slice A3 n3 c3] 24)) = W at *
      go_region_held3 (fun w' => w'.cell? ⟨w2.heap.size, 0, none⟩ = some (.bool b2) ∧ w'.cell? ⟨w2.heap.size, 1, none⟩ = some (.slice A2 n2 c2) ∧ w'.cell? ⟨w4.heap.size, 0, none⟩ = some (.bool b3) ∧ w'.cell? ⟨w4.heap.size, 1, none⟩ = some (.slice A3 n3 c3)) (first | exact ⟨pa, qa, pb, qb⟩) (first
        | (go_at_call 15; (with_reducible refine (of_nr 10 _ (by omega) (by omega)).mono ?_); rintro e wt ⟨bt, At, nt, ct, rt, rfl, hvt, hmt, hrt, hit, hNt, hbt⟩; have hNt := hNt.out; (first | (have hG := G.go hG hbt) | (have hG := G.go (G.drew hG) hbt)); (first | (have ka := Box.go ka hbt) | (have ka := Box.go (Box.drew ka) hbt)); (first | (have kb := Box.go kb hbt) | (have kb := Box.go (Box.drew kb) hbt)); have pa := ka.1; have qa := ka.2.1; have pb := kb.1; have qb := kb.2.1)
        | (go_at_call 14; (with_reducible refine (mul_any b2 bt A2 At n2 nt c2 ct 3000 r2 rt _ (by first | exact ka.nv | exact ka.drew.nv) (by first | exact hvt | exact hvt.drew) (by omega) (by omega) (by omega)).mono ?_); rintro e wm ⟨bm, Am, nm, cm, rm, rfl, hvm, hmm, hrm, him, hNm, hbm⟩; have hNm := hNm.out; (first | (have hG := G.go hG hbm) | (have hG := G.go (G.drew hG) hbm)); (first | (have ka := Box.go ka hbm) | (have ka := Box.go (Box.drew ka) hbm)); (first | (have kb := Box.go kb hbm) | (have kb := Box.go (Box.drew kb) hbm)); have pa := ka.1; have qa := ka.2.1; have pb := kb.1; have qb := kb.2.1)
        | (go_at_call 15; (with_reducible refine (of_nr y _ (by omega) (by omega)).mono ?_); rintro e wu ⟨bu, Au, nu, cu, ru, rfl, hvu, hmu, hru, hiu, hNu, hbu⟩; have hNu := hNu.out; (first | (have hG := G.go hG hbu) | (have hG := G.go (G.drew hG) hbu)); (first | (have ka := Box.go ka hbu) | (have ka := Box.go (Box.drew ka) hbu)); (first | (have kb := Box.go kb hbu) | (have kb := Box.go (Box.drew kb) hbu)); have pa := ka.1; have qa := ka.2.1; have pb := kb.1; have qb := kb.2.1; try (first | (have hvm := NV.below hvm hbu) | (have hvm := NV.below (NV.drew hvm) hbu)))
        | (go_at_call 13; (with_reducible refine (add_any bm bu Am Au nm nu cm cu 3001 rm ru _ (by first | exact hvm | exact hvm.drew) (by first | exact hvu | exact hvu.drew) (by omega) (by omega) (by omega)).mono ?_); rintro e ws ⟨bs, As, ns, cs, rs, rfl, hvs, hms, hrs, his, hNs, hbs⟩; have hNs := hNs.out; (first | (have hG := G.go hG hbs) | (have hG := G.go (G.drew hG) hbs)); (first | (have ka := Box.go ka hbs) | (have ka := Box.go (Box.drew ka) hbs)); (first | (have kb := Box.go kb hbs) | (have kb := Box.go (Box.drew kb) hbs)); have pa := ka.1; have qa := ka.2.1; have pb := kb.1; have qb := kb.2.1)
        | (go_at_call 16; (with_reducible refine (same_is b3 bs A3 As n3 ns c3 cs r3 rs _ (by first | exact kb.nv | exact kb.drew.nv) (by first | exact hvs | exact hvs.drew) (Lib.hid (by rw [hm3.out, hms.out, hmm.out, hmt.out, hmu.out, hm2.out, hDV.out]; exact addM_mk _ _))).mono ?_); rintro e wz1 ⟨rfl, hbz1⟩; (first | (have hG := G.go hG hbz1) | (have hG := G.go (G.drew hG) hbz1)); (first | (have ka := Box.go ka hbz1) | (have ka := Box.go (Box.drew ka) hbz1)); (first | (have kb := Box.go kb hbz1) | (have kb := Box.go (Box.drew kb) hbz1)); have pa := ka.1; have qa := ka.2.1; have pb := kb.1; have qb := kb.2.1)
        | (go_at_call 26; (with_reducible refine (text_is b2 A2 n2 c2 r2 _ (by first | exact ka.nv | exact ka.drew.nv) (by omega) (by first | exact hG.tab | exact hG.drew.tab) hm2 hS).mono ?_); rintro e wz2 ⟨rfl, hbz2⟩; (first | (have hG := G.go hG hbz2) | (have hG := G.go (G.drew hG) hbz2)); (first | (have ka := Box.go ka hbz2) | (have ka := Box.go (Box.drew ka) hbz2)); (first | (have kb := Box.go kb hbz2) | (have kb := Box.go (Box.drew kb) hbz2)); have pa := ka.1; have qa := ka.2.1; have pb := kb.1; have qb := kb.2.1)
        | (go_at_call 11; (with_reducible refine (awake_any _ (by first | exact hG.tab | exact hG.drew.tab)).mono ?_); rintro e wz3 ⟨rfl, hbz3⟩; (first | (have hG := G.go hG hbz3) | (have hG := G.go (G.drew hG) hbz3)); (first | (have ka := Box.go ka hbz3) | (have ka := Box.go (Box.drew ka) hbz3)); (first | (have kb := Box.go kb hbz3) | (have kb := Box.go (Box.drew kb) hbz3)); have pa := ka.1; have qa := ka.2.1; have pb := kb.1; have qb := kb.2.1))
      all_goals
        go_wp2_with fail
        go_ret
        exact ⟨rfl, hG.below⟩
end Go.Proofs.YtdpheomokeikbaaDoor
