/- Of any two rows of doubles the program's greatest product, sum and exactness are the reference's. No condition. -/
import Derived.Test.YtlbakakfjcmldaaWi
namespace Go.Proofs.Ytlbakakfjcmldaa
open Go.ChangeShapes Go.WideShapes Go.ChangeAt Go.RowKit Go.FT

set_option maxHeartbeats 2000000 in
theorem fopRows_law (w : World) (A : Option Addr) (xs : List Nat) (c : Nat) (hxs : FS w A xs c) (A' : Option Addr) (ys : List Nat) (c' : Nat) (hys : FS w A' ys c') :
    Calls Try.prog 8 #[.slice A xs.length c, .slice A' ys.length c'] w fun e w' => e = .returned (.bool true) ∧ Below w.heap.size w w' := by
  obtain ⟨hr0, hx, hn, _⟩ := hxs
  obtain ⟨hr0', hy, hn', _⟩ := hys
  have hr := Rd.of_reads hr0
  have hr' := Rd.of_reads hr0'
  clear hr0 hr0'
  have h1 := sameF_refl (dotF xs ys).1
  have h2 := sameF_refl (pathG 0 xs).1
  have h3 := exL_same hx
  have h4 : (exL xs == exL xs) = true := by simp
  by_cases hs : (xs.length : Int) ≤ 200 ∧ (ys.length : Int) ≤ 200
  · obtain ⟨s1, s2⟩ := hs
    have s1 := decide_eq_true s1
    have s2 := decide_eq_true s2
    go_enter Try.func8, Try.ntmps8
    go_wp2_with (first | (go_at_call 18; refine (small_any _ _ _ _).mono ?_; rintro e w' ⟨rfl, rfl⟩) | (go_at_call 20; refine (dot_any _ _ _ _ _ _ _ hr hr' hx hy hn hn').mono ?_; rintro e w' ⟨rfl, rfl⟩) | (go_at_call 21; refine (refDot_any _ _ _ _ _ _ _ hr hr' hx hy hn hn').mono ?_; rintro e w1 ⟨rfl, hq⟩; have hq1 := hq.rd hr) | (go_at_call 16; refine (path_any _ _ _ _ hq1 hx hn).mono ?_; rintro e w' ⟨rfl, rfl⟩) | (go_at_call 22; refine (refPath_any _ _ _ _ hq1 hx hn).mono ?_; rintro e w' ⟨rfl, rfl⟩) | (go_at_call 17; refine (exact_any _ _ _ _ hq1 hx).mono ?_; rintro e w' ⟨rfl, rfl⟩) | (go_at_call 23; refine (refExact_any _ _ _ _ hq1 hx hn).mono ?_; rintro e w' ⟨rfl, rfl⟩) | (go_at_call 13; refine (same_any _ _ _).mono ?_; rintro e w' ⟨rfl, rfl⟩) | (go_at_call 14; refine (awake_any _).mono ?_; rintro e w' ⟨rfl, hb⟩))
    go_ret
    exact ⟨rfl, hq.below.trans (hb.mono (by rw [hq.size]; omega))⟩
  · have hs2 : (decide ((xs.length : Int) ≤ 200) && decide ((ys.length : Int) ≤ 200)) = false := by
      rw [Bool.and_eq_false_iff]
      by_cases a : (xs.length : Int) ≤ 200
      · right; exact decide_eq_false (fun b => hs ⟨a, b⟩)
      · left; exact decide_eq_false a
    clear hs
    cases s1 : decide ((xs.length : Int) ≤ 200) with
    | false =>
      go_enter Try.func8, Try.ntmps8
      go_wp2_with (first | (go_at_call 18; refine (small_any _ _ _ _).mono ?_; rintro e w' ⟨rfl, rfl⟩) | (go_at_call 14; refine (awake_any _).mono ?_; rintro e w' ⟨rfl, hb⟩))
      go_ret
      exact ⟨rfl, hb⟩
    | true =>
      have s2 : decide ((ys.length : Int) ≤ 200) = false := by rw [s1] at hs2; simpa using hs2
      go_enter Try.func8, Try.ntmps8
      go_wp2_with (first | (go_at_call 18; refine (small_any _ _ _ _).mono ?_; rintro e w' ⟨rfl, rfl⟩) | (go_at_call 14; refine (awake_any _).mono ?_; rintro e w' ⟨rfl, hb⟩))
      go_ret
      exact ⟨rfl, hb⟩

set_option maxRecDepth 100000 in
theorem fopRows_lifted (os : Os) (started : os.Started) (H : Type) (enc : TypeId × Value → H) :
    ReturnsInHanded {} Try.checked os 8 .any (Rows.fopRowsSpec.pre6 enc Try.prog Try.f8 Rows.fopRowsRow.domain false) (Rows.fopRowsSpec.post enc Try.prog Try.f8 false true false false) := by
  refine returnsInHanded_of_change (C := Try.checked) own started (by kernel_rfl) Try.func8
    (ChangeSpec.witness6 (enc := enc) (C := Try.checked) false ⟨#[], #[.slice none 0 0, .slice none 0 0], []⟩ 8 (by kernel_rfl) (by kernel_rfl) (by kernel_rfl) (by kernel_rfl)) ?_
  intro W base args ds gs before hval0 hW hcnd _
  have hval : ∀ (j : Nat) t v, Try.f8.params[j]? = some t → args[j]? = some v → Value.okWide Try.prog W .any base t v := hval0
  have hW' := hW
  obtain ⟨p, q, hA0, hV, rfl, hfz, hnd⟩ := hW
  have hA : DataW.TrodAll enc Try.prog W 0 (fun _ => true) true Try.f8.params.toList args.toList ds p := hA0
  rw [Try.params8] at hA hval
  obtain ⟨v0, vs0, d0, ds0, p0, q0, hargs, rfl, rfl, h0, r0⟩ := trodAll_cons hA
  obtain ⟨v1, vs1, d1, ds1, p1, q1, rfl, rfl, rfl, h1, r1⟩ := trodAll_cons r0
  obtain ⟨rfl, rfl, rfl⟩ := trodAll_nil r1
  obtain rfl : args = #[v0, v1] := by cases args; simp_all
  obtain ⟨rfl, rfl⟩ := trodVars_none hV
  simp only [List.append_nil] at hW'
  have hbl : ∀ x ∈ (p0 ++ (p1) : List MemPlace), x.block < W.heap.size := fun x hx => hW'.lt x hx
  have k0 := h0
  have l0 : ∀ x ∈ p0, x.block < W.heap.size := fun x hx => hbl x (by simp [hx])
  obtain ⟨A0, xs0, c0, rfl, g0⟩ := open_floats (hval 0 31 v0 rfl rfl) h0
  have k1 := h1
  have l1 : ∀ x ∈ p1, x.block < W.heap.size := fun x hx => hbl x (by simp [hx])
  obtain ⟨A1, xs1, c1, rfl, g1⟩ := open_floats (hval 1 31 v1 rfl rfl) h1
  clear hA0 hval0
  refine (fopRows_law W A0 xs0 c0 g0 A1 xs1 c1 g1).mono fun e W2 ⟨he, hb⟩ => ?_
  subst he
  exact ⟨_, rfl, post_of_below (pa := p0 ++ (p1++ [])) (pv := []) hW' (fun _ _ _ => trodAll_cons_mk (shut_bool Try.underlying4 _) trodAll_mk0) (fun sp hsp => (trodAll_cons_mk (trod_kept laidOut (by kernel_rfl) (of_decide_eq_true (by kernel_rfl)) k0 hb l0 (fun x hx => hsp x (by simp [hx]))) (trodAll_cons_mk (trod_kept laidOut (by kernel_rfl) (of_decide_eq_true (by kernel_rfl)) k1 hb l1 (fun x hx => hsp x (by simp [hx]))) trodAll_mk0))) (fun _ _ => rfl) (by simp) hb (ok_one (by kernel_rfl) rfl (okWide_bool_mk Try.underlying4 _))⟩

theorem fopRows_over : Rows.fopRowsRow.holds Try.pinned (OpenSpec.ofChange Rows.fopRowsSpec) :=
  OpenClaim.holds_of_wide 8 Try.f8 rfl rfl rfl rfl rfl rfl rfl ⟨rfl, rfl, rfl, rfl, rfl⟩ rfl rfl rfl rfl rfl (by kernel_rfl) Try.func8 (by kernel_rfl)
    (of_decide_eq_true (by kernel_rfl)) (by unfold Func.isWrapper; first | (rw [if_pos (by decide +kernel)]; kernel_rfl) | (rw [if_neg (by decide +kernel)]; exact ⟨rfl, rfl⟩))
    (fun os started H enc _ => fopRows_lifted os started H enc)

/-- THE STATEMENT. -/
theorem fopRows_holds : Rows.FopRowsSaid :=
  fopRows_over
#print axioms fopRows_holds
end Go.Proofs.Ytlbakakfjcmldaa
