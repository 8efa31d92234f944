/- A price of infinity behind a row of prices makes the sum infinite; no sum is below one of its prices; where a sum is refused, one of the row is no price. No condition. -/
import Derived.Test.YtlbakakfjcmldaaWj
namespace Go.Proofs.Ytlbakakfjcmldaa
open Go.ChangeShapes Go.WideShapes Go.ChangeAt Go.RowKit Go.FT

theorem take_any {xs : List Nat} {k : Nat} (p : Nat → Bool) (h : k < xs.length) : (xs.take (k + 1)).any p = ((xs.take k).any p || p (xs.getD k 0)) := by
  rw [List.take_succ_eq_append_getElem h, List.any_append, List.getD_eq_getElem?_getD, List.getElem?_eq_getElem h]; simp
theorem info22 : (Try.prog.info? 22).map (fun i => (i.zero, i.size, i.bytes)) = some (some (.float .f64 0), 1, 8) := by kernel_rfl

set_option maxHeartbeats 400000 in
theorem fopInf_law (w : World) (A : Option Addr) (xs : List Nat) (c : Nat) (hxs : FS w A xs c) :
    Calls Try.prog 6 #[.slice A xs.length c] w fun e w' => e = .returned (.bool true) ∧ Below w.heap.size w w' := by
  obtain ⟨hr0, hx, hn, _⟩ := hxs
  have hr := Rd.of_reads hr0
  by_cases hl : (xs.length : Int) ≤ 200
  · have s1 := decide_eq_true hl
    have hl' : xs.length ≤ 200 := by omega
    clear hl
    by_cases he : (pathG 0 xs).2 = 0
    · obtain ⟨p1, p2, p3, p4⟩ := pathG_sum xs 0 (by omega) he
      have hinf : Hid (pathG 0 (xs ++ [INF]) = (INF, 0)) := Lib.hid (by rw [p4]; exact pathG_inf p3)
      have P1 := Lib.hid p1
      clear p1 p4
      have q1 : (FloatKind.f64.format.order (pathG 0 xs).1 0 == some .gt || FloatKind.f64.format.order (pathG 0 xs).1 0 == some .eq) = true := ord_ge (ok_zero _) p3 (by rw [clr_zero]; omega)
      generalize hs : pathG 0 xs = r at *
      have HS := Lib.hid hs
      clear hs
      obtain ⟨s, er⟩ := r
      simp only at he q1 p2 p3
      subst he
      obtain ⟨i0, hi, hz0, hz1, hz2⟩ := info_parts info22
      go_enter Try.func6, Try.ntmps6
      go_wp2_with (first
        | (go_at_call 18; refine (small_any _ _ _ _).mono ?_; rintro e w' ⟨rfl, rfl⟩)
        | (go_at_call 15; refine (of_inf _).mono ?_; rintro e w' ⟨rfl, rfl⟩)
        | (at_builtin; refine wpList_append_reads _ (Value.float .f64) (fun _ => rfl) 31 22 i0 _ 8 Try.underlying31 hi hz0 hz1 hz2 rfl rfl (.tmp 53) (.tmp 54) rfl w.heap.size _ 0 [] rfl (World.ownsRow_lit _ #[] 0 (Nat.le_refl _) (by unfold maxLen; omega) rfl) w.heap.size A xs.length c xs rfl (hr0.alloc (Nat.le_refl _) _) (by unfold maxLen; omega) (by omega) (by simp) ?_; intro A1 n1 c1 w1 hn1 hc1 hown1 hb1; have hb1' : Below w.heap.size w w1 := ((Below.refl _ _).alloc (Nat.le_refl _) _).trans hb1)
        | (at_builtin; refine wpList_append_reads _ (Value.float .f64) (fun _ => rfl) 31 22 i0 _ 8 Try.underlying31 hi hz0 hz1 hz2 rfl rfl (.tmp 55) (.tmp 57) rfl w.heap.size _ n1 ([] ++ xs) rfl (hown1.alloc _) _ _ 1 _ [INF] rfl (Reads.lit1 _ _ _ _) (by have := hn1.out; unfold maxLen; omega) (by have := hn1.out; omega) (by have := hb1'.size; simp; omega) ?_; intro A2 n2 c2 w2 hn2 hc2 hown2 hb2; have hb2' : Below w.heap.size w w2 := (hb1'.alloc hb1'.size _).trans hb2)
        | (go_at_call 16; (with_reducible refine (path_any A c xs w hr hx hn).mono ?_); rw [HS.out]; rintro e w' ⟨rfl, rfl⟩)
        | (go_at_call 16; refine (path_n A2 n2 c2 ([] ++ xs ++ [INF]) w2 (Reads.of_own hown2) (by intro x hx2; rw [List.nil_append, List.mem_append] at hx2; rcases hx2 with h | h; exact hx x h; rw [List.mem_singleton.1 h]; decide) (by have := hn2.out; have := hn1.out; omega)).mono ?_; rw [List.nil_append, hinf.out]; rintro e w' ⟨rfl, rfl⟩))
      have q2 : (FloatKind.f64.format.order INF INF == some .eq) = true := by decide +kernel
      have hr2 : Rd w2 w.heap.size A xs := hr.below hb2'
      go_loop [12] (fun i => ∃ k : Nat, k ≤ xs.length ∧ i = .int .i64 k) (fun i => xs.length - (intOf i).toNat)
      case atStart => exact ⟨0, Nat.zero_le _, rfl⟩
      case round =>
        obtain ⟨k, hk, rfl⟩ := hrel
        by_cases hlt : k < xs.length
        · obtain ⟨ad, rfl, hb, hc⟩ := hr2 k hlt
          have hm : xs.getD k 0 ∈ xs := by rw [List.getD_eq_getElem?_getD, List.getElem?_eq_getElem hlt]; exact List.getElem_mem hlt
          obtain ⟨o1, o2⟩ := P1.out _ hm
          have hge := ord_ge o1 p3 o2
          clear o1 o2 hm
          generalize xs.getD k 0 = x at *
          go_wp2_with fail
          go_round
          case rel => exact ⟨k + 1, by omega, by go_num⟩
          case measure => simp [intOf]; omega
        · go_wp2_with (go_at_call 14; refine (awake_any _).mono ?_; rintro e w' ⟨rfl, hb⟩)
          go_ret
          exact ⟨rfl, hb2'.trans (hb.mono hb2'.size)⟩
    · obtain ⟨z1, z2, z3⟩ := pathG_err xs 0 (by omega) he
      have hall : Hid (xs.any (fun x => we x INF != 0) = true) := Lib.hid (List.any_eq_true.2 (by
        obtain ⟨x, hx1, hx2⟩ := z3
        exact ⟨x, hx1, by simp [hx2]⟩))
      clear z3 he
      generalize hs : pathG 0 xs = r at *
      have HS := Lib.hid hs
      clear hs
      obtain ⟨s, er⟩ := r
      simp only at z1 z2
      subst z1 z2
      go_enter Try.func6, Try.ntmps6
      go_wp2_with (first
        | (go_at_call 18; refine (small_any _ _ _ _).mono ?_; rintro e w' ⟨rfl, rfl⟩)
        | (go_at_call 16; (with_reducible refine (path_any A c xs w hr hx hn).mono ?_); rw [HS.out]; rintro e w' ⟨rfl, rfl⟩))
      go_loop [5, 6] (fun b i => ∃ (k : Nat) (bb : Bool), k ≤ xs.length ∧ i = .int .i64 k ∧ b = .bool bb ∧ Hid ((xs.take k).any (fun x => we x INF != 0) = bb)) (fun _ i => xs.length - (intOf i).toNat)
      case atStart => exact ⟨0, false, Nat.zero_le _, rfl, rfl, Lib.hid rfl⟩
      case round =>
        obtain ⟨k, bb, hk, rfl, rfl, hp⟩ := hrel
        by_cases hlt : k < xs.length
        · obtain ⟨ad, rfl, hb, hc⟩ := hr k hlt
          have hxk : xs.getD k 0 < W64 := hx _ (by rw [List.getD_eq_getElem?_getD, List.getElem?_eq_getElem hlt]; exact List.getElem_mem hlt)
          have ht := Lib.hid (take_any (fun x => we x INF != 0) hlt)
          generalize xs.getD k 0 = x at *
          cases bb with
          | true =>
            go_wp2_with (go_at_call 19; refine (refPrice_any _ _ hxk).mono ?_; rintro e w' ⟨rfl, rfl⟩)
            go_round
            case rel => exact ⟨k + 1, true, by omega, by go_num, rfl, Lib.hid (by rw [ht.out, hp.out]; rfl)⟩
            case measure => simp [intOf]; omega
          | false =>
            cases hw : (we x INF != 0) with
            | true =>
              go_wp2_with (go_at_call 19; refine (refPrice_any _ _ hxk).mono ?_; rintro e w' ⟨rfl, rfl⟩)
              go_round
              case rel => exact ⟨k + 1, true, by omega, by go_num, rfl, Lib.hid (by rw [ht.out, hw, Bool.or_true])⟩
              case measure => simp [intOf]; omega
            | false =>
              go_wp2_with (go_at_call 19; refine (refPrice_any _ _ hxk).mono ?_; rintro e w' ⟨rfl, rfl⟩)
              go_round
              case rel => exact ⟨k + 1, false, by omega, by go_num, rfl, Lib.hid (by rw [ht.out, hw, hp.out]; rfl)⟩
              case measure => simp [intOf]; omega
        · have hb : bb = true := by rw [← hp.out, List.take_of_length_le (by omega)]; exact hall.out
          subst hb
          go_wp2_with (go_at_call 14; refine (awake_any _).mono ?_; rintro e w' ⟨rfl, hb⟩)
          go_ret
          exact ⟨rfl, hb⟩
  · have s1 := decide_eq_false hl
    go_enter Try.func6, Try.ntmps6
    go_wp2_with (first
      | (go_at_call 18; refine (small_any _ _ _ _).mono ?_; rintro e w' ⟨rfl, rfl⟩)
      | (go_at_call 14; refine (awake_any _).mono ?_; rintro e w' ⟨rfl, hb⟩))
    go_ret
    exact ⟨rfl, hb⟩

set_option maxRecDepth 100000 in
theorem fopInf_lifted (os : Os) (started : os.Started) (H : Type) (enc : TypeId × Value → H) :
    ReturnsInHanded {} Try.checked os 6 .any (Rows.fopInfSpec.pre6 enc Try.prog Try.f6 Rows.fopInfRow.domain false) (Rows.fopInfSpec.post enc Try.prog Try.f6 false true false false) := by
  refine returnsInHanded_of_change (C := Try.checked) own started (by kernel_rfl) Try.func6
    (ChangeSpec.witness6 (enc := enc) (C := Try.checked) false ⟨#[], #[.slice none 0 0], []⟩ 8 (by kernel_rfl) (by kernel_rfl) (by kernel_rfl) (by kernel_rfl)) ?_
  intro W base args ds gs before hval0 hW hcnd _
  have hval : ∀ (j : Nat) t v, Try.f6.params[j]? = some t → args[j]? = some v → Value.okWide Try.prog W .any base t v := hval0
  have hW' := hW
  obtain ⟨p, q, hA0, hV, rfl, hfz, hnd⟩ := hW
  have hA : DataW.TrodAll enc Try.prog W 0 (fun _ => true) true Try.f6.params.toList args.toList ds p := hA0
  rw [Try.params6] at hA hval
  obtain ⟨v0, vs0, d0, ds0, p0, q0, hargs, rfl, rfl, h0, r0⟩ := trodAll_cons hA
  obtain ⟨rfl, rfl, rfl⟩ := trodAll_nil r0
  obtain rfl : args = #[v0] := by cases args; simp_all
  obtain ⟨rfl, rfl⟩ := trodVars_none hV
  simp only [List.append_nil] at hW'
  have hbl : ∀ x ∈ (p0 : List MemPlace), x.block < W.heap.size := fun x hx => hW'.lt x hx
  have k0 := h0
  have l0 : ∀ x ∈ p0, x.block < W.heap.size := fun x hx => hbl x (by simp [hx])
  obtain ⟨A0, xs0, c0, rfl, g0⟩ := open_floats (hval 0 31 v0 rfl rfl) h0
  clear hA0 hval0
  refine (fopInf_law W A0 xs0 c0 g0).mono fun e W2 ⟨he, hb⟩ => ?_
  subst he
  exact ⟨_, rfl, post_of_below (pa := p0++ []) (pv := []) hW' (fun _ _ _ => trodAll_cons_mk (shut_bool Try.underlying4 _) trodAll_mk0) (fun sp hsp => (trodAll_cons_mk (trod_kept laidOut (by kernel_rfl) (of_decide_eq_true (by kernel_rfl)) k0 hb l0 (fun x hx => hsp x (by simp [hx]))) trodAll_mk0)) (fun _ _ => rfl) (by simp) hb (ok_one (by kernel_rfl) rfl (okWide_bool_mk Try.underlying4 _))⟩

theorem fopInf_over : Rows.fopInfRow.holds Try.pinned (OpenSpec.ofChange Rows.fopInfSpec) :=
  OpenClaim.holds_of_wide 6 Try.f6 rfl rfl rfl rfl rfl rfl rfl ⟨rfl, rfl, rfl, rfl, rfl⟩ rfl rfl rfl rfl rfl (by kernel_rfl) Try.func6 (by kernel_rfl)
    (of_decide_eq_true (by kernel_rfl)) (by unfold Func.isWrapper; first | (rw [if_pos (by decide +kernel)]; kernel_rfl) | (rw [if_neg (by decide +kernel)]; exact ⟨rfl, rfl⟩))
    (fun os started H enc _ => fopInf_lifted os started H enc)

/-- THE STATEMENT. -/
theorem fopInf_holds : Rows.FopInfSaid :=
  fopInf_over
#print axioms fopInf_holds
end Go.Proofs.Ytlbakakfjcmldaa
