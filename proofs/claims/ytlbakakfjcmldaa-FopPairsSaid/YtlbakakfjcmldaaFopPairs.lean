/- The greatest product of pairs of chances is one of the products, none is greater, and the order of the pairs does not count. No condition. -/
import Derived.Test.YtlbakakfjcmldaaWk
import Derived.Deep.RegionHeld3
import Derived.Deep.RegionLaw
namespace Go.Proofs.Ytlbakakfjcmldaa
open Go.ChangeShapes Go.WideShapes Go.ChangeAt Go.RowKit Go.FT

theorem info22 : (Try.prog.info? 22).map (fun i => (i.zero, i.size, i.bytes)) = some (some (.float .f64 0), 1, 8) := by kernel_rfl
theorem any_range {p : Nat → Bool} {k : Nat} : (List.range (k + 1)).any p = ((List.range k).any p || p k) := by
  rw [List.range_succ, List.any_append]; simp

theorem tmod_bd (q : Int) (n : Nat) (h : 0 < n) : -(n : Int) < q.tmod n ∧ q.tmod n < n := by
  refine ⟨?_, Int.tmod_lt_of_pos q (by omega)⟩
  have := Int.lt_tmod_of_pos q (b := n) (by omega)
  omega
set_option maxHeartbeats 1000000 in
theorem pairs_main (w : World) (A : Option Addr) (xs : List Nat) (c : Nat) (A' : Option Addr) (ys : List Nat) (c' : Nat) (q : Int) (hxs : FS w A xs c) (hys : FS w A' ys c') (hlen : xs.length = ys.length) (hne : xs.length ≠ 0) (hl : xs.length ≤ 200) (h0 : (dotF xs ys).2 = 0) :
    Calls Try.prog 7 #[.slice A xs.length c, .slice A' ys.length c', .int .i64 q] w fun e w' => e = .returned (.bool true) ∧ Below w.heap.size w w' := by
  obtain ⟨hr0, hx, hn, hcc0⟩ := hxs
  obtain ⟨hr0', hy, hn', hcc0'⟩ := hys
  obtain ⟨hm1, hm2⟩ := tmod_bd q xs.length (by omega)
  have hr := Rd.of_reads hr0
  have hr' := Rd.of_reads hr0'
  have HROT := Lib.hid (fun k => dotF_rot hlen k h0)
  obtain ⟨p1, p2, k0, p3, p4⟩ := dotF_pairs hlen hne h0
  have P1 := Lib.hid p1
  have P4 := Lib.hid p4
  clear p1 p4
  have HL := Lib.hid hlen
  have s1 : decide ((xs.length : Int) ≤ 200) = true := decide_eq_true (by omega)
  have s2 : ((xs.length : Int) != (ys.length : Int)) = false := by rw [hlen]; simp
  have s3 : ((xs.length : Int) == 0) = false := by rw [beq_eq_false_iff_ne]; omega
  clear hlen hne
  generalize hs : dotF xs ys = r at *
  have HS := Lib.hid hs
  clear hs
  obtain ⟨g, er⟩ := r
  simp only at h0 p2
  subst h0
  have hsame := sameF_refl g
  obtain ⟨i0, hi, hz0, hz1, hz2⟩ := info_parts info22
  go_enter Try.func7, Try.ntmps7
  go_wp2_with (first
    | (go_at_call 18; refine (small_any _ _ _ _).mono ?_; rintro e w' ⟨rfl, rfl⟩)
    | (go_at_call 20; (with_reducible refine (dot_any A A' c c' xs ys w hr hr' hx hy hn hn').mono ?_); rw [HS.out]; rintro e w' ⟨rfl, rfl⟩))
  go_loopw [9, 10] (fun m i wr => ∃ (k : Nat) (b : Bool), Quiet w wr ∧ k ≤ xs.length ∧ i = .int .i64 k ∧ m = .bool b ∧ Hid (k0 < k → b = true)) (fun _ i _ => xs.length - (intOf i).toNat)
  case atStart => exact ⟨0, false, ⟨0, rfl⟩, Nat.zero_le _, rfl, rfl, Lib.hid (fun h => by omega)⟩
  case round =>
    obtain ⟨k, b, hq, hk, rfl, rfl, hp⟩ := hrel
    by_cases hlt : k < xs.length
    · obtain ⟨ad, rfl, hb, hcc⟩ := (hq.rd hr) k hlt
      have hlt' : k < ys.length := by have := HL.out; omega
      obtain ⟨ad', rfl, hb', hcc'⟩ := (hq.rd hr') k hlt'
      have hxk : xs.getD k 0 < W64 := hx _ (by rw [List.getD_eq_getElem?_getD, List.getElem?_eq_getElem hlt]; exact List.getElem_mem hlt)
      have hyk : ys.getD k 0 < W64 := hy _ (by rw [List.getD_eq_getElem?_getD, List.getElem?_eq_getElem hlt']; exact List.getElem_mem hlt')
      obtain ⟨o1, o2⟩ := P1.out k hlt
      have o3 : (FloatKind.f64.format.order (tv (xs.getD k 0) (ys.getD k 0)) g == some .gt) = false := by
        have : FloatKind.f64.format.order (tv (xs.getD k 0) (ys.getD k 0)) g = some (compare (tv (xs.getD k 0) (ys.getD k 0)) g) := order_fin (Nat.le_trans tv_le one_le_inf) (Nat.le_trans p2 one_le_inf)
        rw [this, cmp_gt]; exact decide_eq_false (by omega)
      have o4 : (FloatKind.f64.format.order (tv (xs.getD k 0) (ys.getD k 0)) g == some .eq) = decide (tv (xs.getD k 0) (ys.getD k 0) = g) := by
        have : FloatKind.f64.format.order (tv (xs.getD k 0) (ys.getD k 0)) g = some (compare (tv (xs.getD k 0) (ys.getD k 0)) g) := order_fin (Nat.le_trans tv_le one_le_inf) (Nat.le_trans p2 one_le_inf)
        rw [this, cmp_eq]
      have hmet : Hid (k0 = k → tv (xs.getD k 0) (ys.getD k 0) = g) := Lib.hid (fun e => by subst e; exact P4.out)
      clear o2
      generalize xs.getD k 0 = x at *
      generalize ys.getD k 0 = y at *
      cases b with
      | true =>
        clear o4
        go_wp2_with fail
        go_quiet ((go_at_call 9; exact Calls.quiet_of_same ((times_any x y _ hxk hyk).mono fun _ _ h => ⟨h.1, h.2.symm⟩)))
        go_wp2_with fail
        go_roundw
        case rel => exact ⟨k + 1, true, hq.drewN _, by omega, by go_num, rfl, Lib.hid (fun _ => rfl)⟩
        case measure => simp [intOf]; omega
      | false =>
        by_cases ht : tv x y = g
        · rw [decide_eq_true ht] at o4
          clear ht
          go_wp2_with fail
          go_quiet ((go_at_call 9; exact Calls.quiet_of_same ((times_any x y _ hxk hyk).mono fun _ _ h => ⟨h.1, h.2.symm⟩)))
          go_wp2_with fail
          go_roundw
          case rel => exact ⟨k + 1, true, hq.drewN _, by omega, by go_num, rfl, Lib.hid (fun _ => rfl)⟩
          case measure => simp [intOf]; omega
        · rw [decide_eq_false ht] at o4
          have HT := Lib.hid ht
          clear ht
          go_wp2_with fail
          go_quiet ((go_at_call 9; exact Calls.quiet_of_same ((times_any x y _ hxk hyk).mono fun _ _ h => ⟨h.1, h.2.symm⟩)))
          go_wp2_with fail
          go_roundw
          case rel => exact ⟨k + 1, false, hq.drewN _, by omega, by go_num, rfl, Lib.hid (fun h => by
            by_cases e : k0 < k
            · exact hp.out e
            · exact absurd (hmet.out (by omega)) HT.out)⟩
          case measure => simp [intOf]; omega
    · have hb : b = true := hp.out (by omega)
      subst hb
      go_wp2_with fail
      all_goals
        have hL := HL.out
        have hpick : ∃ kk : Nat, kk < xs.length ∧ ((q.tmod ↑xs.length < 0 ∧ q.tmod ↑xs.length + ↑xs.length = (kk : Int)) ∨ (¬ q.tmod ↑xs.length < 0 ∧ q.tmod ↑xs.length = (kk : Int))) := by
          by_cases e : q.tmod ↑xs.length < 0
          · exact ⟨(q.tmod ↑xs.length + ↑xs.length).toNat, by omega, .inl ⟨e, by omega⟩⟩
          · exact ⟨(q.tmod ↑xs.length).toNat, by omega, .inr ⟨e, by omega⟩⟩
        obtain ⟨kk, hkk, hpick⟩ := hpick
        have hkk1 : kk ≤ xs.length := by omega
        have hkk2 : kk ≤ ys.length := by omega
        have hkc1 : kk ≤ c := by omega
        have hkc2 : kk ≤ c' := by omega
        have hl2 : ys.length ≤ 200 := by omega
        clear hL
        first
        | (have hneg : q.tmod ↑xs.length < 0 := by assumption
           rcases hpick with ⟨_, hz⟩ | ⟨e, _⟩
           rotate_left
           exact absurd hneg e
           rw [hz])
        | (have hneg : ¬ q.tmod ↑xs.length < 0 := by first | assumption | omega
           rcases hpick with ⟨e, _⟩ | ⟨_, hz⟩
           exact absurd e hneg
           rw [hz])
        clear hz hm1 hm2
        have hq1 := hq.rd hr
        have hq2 := hq.below
        clear hq1
        go_region_law (first
          | (refine step_append_oe _ (Value.float .f64) (fun _ => rfl) 31 22 i0 _ 8 Try.underlying31 hi hz0 hz1 hz2 rfl (by rfl) (.tmp 86) (.tmp 89) (by rfl) w.heap.size _ 0 [] (by rfl) (OE.empty _ _ _ _) w.heap.size _ _ _ (ys.drop kk) (by rfl) ((hr0'.cut1 hkk2 hcc0').below (by (repeat first | assumption | apply below_dr | apply below_al))) (by unfold maxLen; omega) (by omega) (by exact Below.size (B := w.heap.size) (w := w) (by (repeat first | assumption | apply below_dr | apply below_al))) ?_; intro A90 n90 c90 w90 hn90 hc90 ho90 hb90; have HB90 : Below w.heap.size w w90 := below_step (by (repeat first | assumption | apply below_dr | apply below_al)) hb90 (Nat.le_refl _))
          | (refine step_append_oe _ (Value.float .f64) (fun _ => rfl) 31 22 i0 _ 8 Try.underlying31 hi hz0 hz1 hz2 rfl (by rfl) (.tmp 90) (.tmp 93) (by rfl) w.heap.size _ n90 (ys.drop kk) (by rfl) (by first | exact ho90 | exact ho90.alloc _ | exact (ho90.alloc _).drew) w.heap.size _ _ _ (ys.take kk) (by rfl) ((hr0'.take1 hkk2).below (by (repeat first | assumption | apply below_dr | apply below_al))) (by unfold maxLen; have := hn90.out; omega) (by have := hn90.out; omega) (by exact Below.size (B := w.heap.size) (w := w) (by (repeat first | assumption | apply below_dr | apply below_al))) ?_; intro A94 n94 c94 w94 hn94 hc94 ho94 hb94; have HB94 : Below w.heap.size w w94 := below_step (by (repeat first | assumption | apply below_dr | apply below_al)) hb94 (Nat.le_refl _); have HR94 : Below w94.heap.size w94 w94 := Below.refl _ _)
          | (refine step_append_oe _ (Value.float .f64) (fun _ => rfl) 31 22 i0 _ 8 Try.underlying31 hi hz0 hz1 hz2 rfl (by rfl) (.tmp 95) (.tmp 98) (by rfl) w94.heap.size _ 0 [] (by rfl) (OE.empty _ _ _ _) w.heap.size _ _ _ (xs.drop kk) (by rfl) ((hr0.cut1 hkk1 hcc0).below (by (repeat first | assumption | apply below_dr | apply below_al))) (by unfold maxLen; omega) (by omega) (by exact Below.size (B := w94.heap.size) (w := w94) (by (repeat first | assumption | apply below_dr | apply below_al))) ?_; intro A99 n99 c99 w99 hn99 hc99 ho99 hb99; have HB99 : Below w.heap.size w w99 := below_step (by (repeat first | assumption | apply below_dr | apply below_al)) hb99 HB94.size; have HR99 : Below w94.heap.size w94 w99 := below_step (by (repeat first | assumption | apply below_dr | apply below_al)) hb99 (Nat.le_refl _))
          | (refine step_append_oe _ (Value.float .f64) (fun _ => rfl) 31 22 i0 _ 8 Try.underlying31 hi hz0 hz1 hz2 rfl (by rfl) (.tmp 99) (.tmp 102) (by rfl) w94.heap.size _ n99 (xs.drop kk) (by rfl) ho99 w.heap.size _ _ _ (xs.take kk) (by rfl) ((hr0.take1 hkk1).below (by (repeat first | assumption | apply below_dr | apply below_al))) (by unfold maxLen; have := hn99.out; omega) (by have := hn99.out; omega) (by exact HR99.size) ?_; intro A103 n103 c103 w103 hn103 hc103 ho103 hb103; have HB103 : Below w.heap.size w w103 := below_step (by (repeat first | assumption | apply below_dr | apply below_al)) hb103 HB94.size; have HR103 : Below w94.heap.size w94 w103 := below_step (by (repeat first | assumption | apply below_dr | apply below_al)) hb103 (Nat.le_refl _))
          | (go_simp; go_at_call 20; (with_reducible refine (dot_n A94 A103 n94 n103 c94 c103 (ys.drop kk ++ ys.take kk) (xs.drop kk ++ xs.take kk) w103 (ho94.reads.below HR103) ho103.reads (rot_lt hy kk) (rot_lt hx kk) (by have := hn94.out; have := hn90.out; omega) (by have := hn103.out; have := hn99.out; omega)).mono ?_); rw [HROT.out]; rintro e w' ⟨rfl, rfl⟩))
        all_goals
          go_wp2_with (first | (go_at_call 13; refine (same_any _ _ _).mono ?_; rintro e w' ⟨rfl, rfl⟩) | (go_at_call 14; refine (awake_any _).mono ?_; rintro e w' ⟨rfl, hb⟩))
          all_goals
            go_ret
            exact ⟨rfl, below_step HB103 hb HB103.size⟩

theorem fopPairs_law (w : World) (A : Option Addr) (xs : List Nat) (c : Nat) (hxs : FS w A xs c) (A' : Option Addr) (ys : List Nat) (c' : Nat) (hys : FS w A' ys c') (q : Int) (_ : (Lit.int .i64 q).wf = true) :
    Calls Try.prog 7 #[.slice A xs.length c, .slice A' ys.length c', .int .i64 q] w fun e w' => e = .returned (.bool true) ∧ Below w.heap.size w w' := by
  by_cases hl : xs.length ≤ 200
  · by_cases hlen : xs.length = ys.length
    · by_cases hne : xs.length = 0
      · have s1 : decide ((xs.length : Int) ≤ 200) = true := decide_eq_true (by omega)
        have s2 : ((xs.length : Int) != (ys.length : Int)) = false := by rw [hlen]; simp
        have s3 : ((xs.length : Int) == 0) = true := by rw [hne]; rfl
        clear hlen hne hl
        go_enter Try.func7, Try.ntmps7
        go_wp2_with (first
          | (go_at_call 18; refine (small_any _ _ _ _).mono ?_; rintro e w' ⟨rfl, rfl⟩)
          | (go_at_call 14; refine (awake_any _).mono ?_; rintro e w' ⟨rfl, hb⟩))
        go_ret
        exact ⟨rfl, hb⟩
      · by_cases h0 : (dotF xs ys).2 = 0
        · exact pairs_main w A xs c A' ys c' q hxs hys hlen hne hl h0
        · have hE := Lib.hid (dotF_err h0)
          obtain ⟨hr0, hx, hn, hcc0⟩ := hxs
          obtain ⟨hr0', hy, hn', hcc0'⟩ := hys
          have hr := Rd.of_reads hr0
          have hr' := Rd.of_reads hr0'
          have s1 : decide ((xs.length : Int) ≤ 200) = true := decide_eq_true (by omega)
          have s2 : ((xs.length : Int) != (ys.length : Int)) = false := by rw [hlen]; simp
          have s3 : ((xs.length : Int) == 0) = false := by rw [beq_eq_false_iff_ne]; omega
          have s4 : (FloatKind.f64.format.order 0 0 == some .eq) = true := by decide +kernel
          clear hlen hne hl h0
          go_enter Try.func7, Try.ntmps7
          go_wp2_with (first
            | (go_at_call 18; refine (small_any _ _ _ _).mono ?_; rintro e w' ⟨rfl, rfl⟩)
            | (go_at_call 20; (with_reducible refine (dot_any A A' c c' xs ys w hr hr' hx hy hn hn').mono ?_); rw [hE.out]; rintro e w' ⟨rfl, rfl⟩)
            | (go_at_call 14; refine (awake_any _).mono ?_; rintro e w' ⟨rfl, hb⟩))
          go_ret
          exact ⟨rfl, hb⟩
    · have s1 : decide ((xs.length : Int) ≤ 200) = true := decide_eq_true (by omega)
      have s2 : ((xs.length : Int) != (ys.length : Int)) = true := by rw [bne_iff_ne]; omega
      clear hlen hl
      go_enter Try.func7, Try.ntmps7
      go_wp2_with (first
        | (go_at_call 18; refine (small_any _ _ _ _).mono ?_; rintro e w' ⟨rfl, rfl⟩)
        | (go_at_call 14; refine (awake_any _).mono ?_; rintro e w' ⟨rfl, hb⟩))
      go_ret
      exact ⟨rfl, hb⟩
  · have s1 : decide ((xs.length : Int) ≤ 200) = false := decide_eq_false (by omega)
    clear hl
    go_enter Try.func7, Try.ntmps7
    go_wp2_with (first
      | (go_at_call 18; refine (small_any _ _ _ _).mono ?_; rintro e w' ⟨rfl, rfl⟩)
      | (go_at_call 14; refine (awake_any _).mono ?_; rintro e w' ⟨rfl, hb⟩))
    go_ret
    exact ⟨rfl, hb⟩

set_option maxRecDepth 100000 in
theorem fopPairs_lifted (os : Os) (started : os.Started) (H : Type) (enc : TypeId × Value → H) :
    ReturnsInHanded {} Try.checked os 7 .any (Rows.fopPairsSpec.pre6 enc Try.prog Try.f7 Rows.fopPairsRow.domain false) (Rows.fopPairsSpec.post enc Try.prog Try.f7 false true false false) := by
  refine returnsInHanded_of_change (C := Try.checked) own started (by kernel_rfl) Try.func7
    (ChangeSpec.witness6 (enc := enc) (C := Try.checked) false ⟨#[], #[.slice none 0 0, .slice none 0 0, .int .i64 0], []⟩ 8 (by kernel_rfl) (by kernel_rfl) (by kernel_rfl) (by kernel_rfl)) ?_
  intro W base args ds gs before hval0 hW hcnd _
  have hval : ∀ (j : Nat) t v, Try.f7.params[j]? = some t → args[j]? = some v → Value.okWide Try.prog W .any base t v := hval0
  have hW' := hW
  obtain ⟨p, q, hA0, hV, rfl, hfz, hnd⟩ := hW
  have hA : DataW.TrodAll enc Try.prog W 0 (fun _ => true) true Try.f7.params.toList args.toList ds p := hA0
  rw [Try.params7] at hA hval
  obtain ⟨v0, vs0, d0, ds0, p0, q0, hargs, rfl, rfl, h0, r0⟩ := trodAll_cons hA
  obtain ⟨v1, vs1, d1, ds1, p1, q1, rfl, rfl, rfl, h1, r1⟩ := trodAll_cons r0
  obtain ⟨v2, vs2, d2, ds2, p2, q2, rfl, rfl, rfl, h2, r2⟩ := trodAll_cons r1
  obtain ⟨rfl, rfl, rfl⟩ := trodAll_nil r2
  obtain rfl : args = #[v0, v1, v2] := by cases args; simp_all
  obtain ⟨rfl, rfl⟩ := trodVars_none hV
  simp only [List.append_nil] at hW'
  have hbl : ∀ x ∈ (p0 ++ (p1 ++ (p2)) : List MemPlace), x.block < W.heap.size := fun x hx => hW'.lt x hx
  have k0 := h0
  have l0 : ∀ x ∈ p0, x.block < W.heap.size := fun x hx => hbl x (by simp [hx])
  obtain ⟨A0, xs0, c0, rfl, g0⟩ := open_floats (hval 0 31 v0 rfl rfl) h0
  have k1 := h1
  have l1 : ∀ x ∈ p1, x.block < W.heap.size := fun x hx => hbl x (by simp [hx])
  obtain ⟨A1, xs1, c1, rfl, g1⟩ := open_floats (hval 1 31 v1 rfl rfl) h1
  have k2 := h2
  have l2 : ∀ x ∈ p2, x.block < W.heap.size := fun x hx => hbl x (by simp [hx])
  obtain ⟨a2, rfl, e2, _, w2⟩ := open_int Try.underlying3 (hval 2 3 v2 rfl rfl) h2
  clear hA0 hval0
  refine (fopPairs_law W A0 xs0 c0 g0 A1 xs1 c1 g1 a2 w2).mono fun e W2 ⟨he, hb⟩ => ?_
  subst he
  exact ⟨_, rfl, post_of_below (pa := p0 ++ (p1 ++ (p2++ []))) (pv := []) hW' (fun _ _ _ => trodAll_cons_mk (shut_bool Try.underlying4 _) trodAll_mk0) (fun sp hsp => (trodAll_cons_mk (trod_kept laidOut (by kernel_rfl) (of_decide_eq_true (by kernel_rfl)) k0 hb l0 (fun x hx => hsp x (by simp [hx]))) (trodAll_cons_mk (trod_kept laidOut (by kernel_rfl) (of_decide_eq_true (by kernel_rfl)) k1 hb l1 (fun x hx => hsp x (by simp [hx]))) (trodAll_cons_mk (trod_kept laidOut (by kernel_rfl) (of_decide_eq_true (by kernel_rfl)) k2 hb l2 (fun x hx => hsp x (by simp [hx]))) trodAll_mk0)))) (fun _ _ => rfl) (by simp) hb (ok_one (by kernel_rfl) rfl (okWide_bool_mk Try.underlying4 _))⟩

theorem fopPairs_over : Rows.fopPairsRow.holds Try.pinned (OpenSpec.ofChange Rows.fopPairsSpec) :=
  OpenClaim.holds_of_wide 7 Try.f7 rfl rfl rfl rfl rfl rfl rfl ⟨rfl, rfl, rfl, rfl, rfl⟩ rfl rfl rfl rfl rfl (by kernel_rfl) Try.func7 (by kernel_rfl)
    (of_decide_eq_true (by kernel_rfl)) (by unfold Func.isWrapper; first | (rw [if_pos (by decide +kernel)]; kernel_rfl) | (rw [if_neg (by decide +kernel)]; exact ⟨rfl, rfl⟩))
    (fun os started H enc _ => fopPairs_lifted os started H enc)

/-- THE STATEMENT. -/
theorem fopPairs_holds : Rows.FopPairsSaid :=
  fopPairs_over
#print axioms fopPairs_holds
end Go.Proofs.Ytlbakakfjcmldaa
