/- A chance times another one is not above either, a price more not below either, in either order; 1 and 0 change nothing: for any two doubles. No condition. -/
import Derived.Test.YtlbakakfjcmldaaWg
import Derived.Test.YtlbakakfjcmldaaWf
namespace Go.Proofs.Ytlbakakfjcmldaa
open Go.ChangeShapes Go.WideShapes Go.ChangeAt Go.RowKit Go.FT

theorem w64_of {x : Nat} (h : (Lit.float .f64 x).wf = true) : x < W64 := by simpa [Lit.wf] using h

set_option maxHeartbeats 2000000 in
theorem fopSinks_law (x : Nat) (wx : (Lit.float .f64 x).wf = true) (y : Nat) (wy : (Lit.float .f64 y).wf = true) (w : World) :
    Calls Try.prog 4 #[.float .f64 x, .float .f64 y] w fun e w' => e = .returned (.bool true) ∧ Below w.heap.size w w' := by
  have hx := w64_of wx
  have hy := w64_of wy
  clear wx wy
  have h1 := sameF_refl (tv x y)
  have h2 := sameF_refl (pv x y)
  have c1 := tv_comm x y
  have c2 := pv_comm x y
  rcases te_or x y with ⟨tx, ty⟩ | ⟨t1, t2⟩
  · obtain ⟨p1, p2, p3, p4, p5, p6, p7⟩ := sink_p (okB_mono tx one_le_inf) (okB_mono ty one_le_inf)
    obtain ⟨t1, t2, t3, t4, t5, t6, t7, t8⟩ := sink_t tx ty
    clear tx ty
    go_enter Try.func4, Try.ntmps4
    go_wp2_with (first | (go_at_call 9; refine (times_any _ _ _ (by first | exact hx | exact hy) (by first | exact hx | exact hy | exact (by decide))).mono ?_; rintro e w' ⟨rfl, rfl⟩) | (go_at_call 11; refine (plus_any _ _ _ (by first | exact hx | exact hy) (by first | exact hx | exact hy | exact (by decide))).mono ?_; rintro e w' ⟨rfl, rfl⟩) | (go_at_call 13; refine (same_any _ _ _).mono ?_; rintro e w' ⟨rfl, rfl⟩) | (go_at_call 14; refine (awake_any _).mono ?_; rintro e w' ⟨rfl, hb⟩))
    go_ret
    exact ⟨rfl, hb⟩
  · rcases pe_or x y with ⟨px, py⟩ | ⟨p1, p2⟩
    · obtain ⟨p1, p2, p3, p4, p5, p6, p7⟩ := sink_p px py
      clear px py
      go_enter Try.func4, Try.ntmps4
      go_wp2_with (first | (go_at_call 9; refine (times_any _ _ _ (by first | exact hx | exact hy) (by first | exact hx | exact hy | exact (by decide))).mono ?_; rintro e w' ⟨rfl, rfl⟩) | (go_at_call 11; refine (plus_any _ _ _ (by first | exact hx | exact hy) (by first | exact hx | exact hy | exact (by decide))).mono ?_; rintro e w' ⟨rfl, rfl⟩) | (go_at_call 13; refine (same_any _ _ _).mono ?_; rintro e w' ⟨rfl, rfl⟩) | (go_at_call 14; refine (awake_any _).mono ?_; rintro e w' ⟨rfl, hb⟩))
      go_ret
      exact ⟨rfl, hb⟩
    · go_enter Try.func4, Try.ntmps4
      go_wp2_with (first | (go_at_call 9; refine (times_any _ _ _ (by first | exact hx | exact hy) (by first | exact hx | exact hy | exact (by decide))).mono ?_; rintro e w' ⟨rfl, rfl⟩) | (go_at_call 11; refine (plus_any _ _ _ (by first | exact hx | exact hy) (by first | exact hx | exact hy | exact (by decide))).mono ?_; rintro e w' ⟨rfl, rfl⟩) | (go_at_call 13; refine (same_any _ _ _).mono ?_; rintro e w' ⟨rfl, rfl⟩) | (go_at_call 14; refine (awake_any _).mono ?_; rintro e w' ⟨rfl, hb⟩))
      go_ret
      exact ⟨rfl, hb⟩

set_option maxRecDepth 100000 in
theorem fopSinks_lifted (os : Os) (started : os.Started) (H : Type) (enc : TypeId × Value → H) :
    ReturnsInHanded {} Try.checked os 4 .any (Rows.fopSinksSpec.pre6 enc Try.prog Try.f4 Rows.fopSinksRow.domain false) (Rows.fopSinksSpec.post enc Try.prog Try.f4 false true false false) := by
  refine returnsInHanded_of_change (C := Try.checked) own started (by kernel_rfl) Try.func4
    (ChangeSpec.witness6 (enc := enc) (C := Try.checked) false ⟨#[], #[.float .f64 0, .float .f64 0], []⟩ 8 (by kernel_rfl) (by kernel_rfl) (by kernel_rfl) (by kernel_rfl)) ?_
  intro W base args ds gs before hval0 hW hcnd _
  have hval : ∀ (j : Nat) t v, Try.f4.params[j]? = some t → args[j]? = some v → Value.okWide Try.prog W .any base t v := hval0
  have hW' := hW
  obtain ⟨p, q, hA0, hV, rfl, hfz, hnd⟩ := hW
  have hA : DataW.TrodAll enc Try.prog W 0 (fun _ => true) true Try.f4.params.toList args.toList ds p := hA0
  rw [Try.params4] at hA hval
  obtain ⟨v0, vs0, d0, ds0, p0, q0, hargs, rfl, rfl, h0, r0⟩ := trodAll_cons hA
  obtain ⟨v1, vs1, d1, ds1, p1, q1, rfl, rfl, rfl, h1, r1⟩ := trodAll_cons r0
  obtain ⟨rfl, rfl, rfl⟩ := trodAll_nil r1
  obtain rfl : args = #[v0, v1] := by cases args; simp_all
  obtain ⟨rfl, rfl⟩ := trodVars_none hV
  simp only [List.append_nil] at hW'
  have hbl : ∀ x ∈ (p0 ++ (p1) : List MemPlace), x.block < W.heap.size := fun x hx => hW'.lt x hx
  have k0 := h0
  have l0 : ∀ x ∈ p0, x.block < W.heap.size := fun x hx => hbl x (by simp [hx])
  obtain ⟨a0, rfl, e0, _, w0⟩ := open_float Try.underlying22 (hval 0 22 v0 rfl rfl) h0
  have k1 := h1
  have l1 : ∀ x ∈ p1, x.block < W.heap.size := fun x hx => hbl x (by simp [hx])
  obtain ⟨a1, rfl, e1, _, w1⟩ := open_float Try.underlying22 (hval 1 22 v1 rfl rfl) h1
  clear hA0 hval0
  refine (fopSinks_law a0 w0 a1 w1 W).mono fun e W2 ⟨he, hb⟩ => ?_
  subst he
  exact ⟨_, rfl, post_of_below (pa := p0 ++ (p1++ [])) (pv := []) hW' (fun _ _ _ => trodAll_cons_mk (shut_bool Try.underlying4 _) trodAll_mk0) (fun sp hsp => (trodAll_cons_mk (trod_kept laidOut (by kernel_rfl) (of_decide_eq_true (by kernel_rfl)) k0 hb l0 (fun x hx => hsp x (by simp [hx]))) (trodAll_cons_mk (trod_kept laidOut (by kernel_rfl) (of_decide_eq_true (by kernel_rfl)) k1 hb l1 (fun x hx => hsp x (by simp [hx]))) trodAll_mk0))) (fun _ _ => rfl) (by simp) hb (ok_one (by kernel_rfl) rfl (okWide_bool_mk Try.underlying4 _))⟩

theorem fopSinks_over : Rows.fopSinksRow.holds Try.pinned (OpenSpec.ofChange Rows.fopSinksSpec) :=
  OpenClaim.holds_of_wide 4 Try.f4 rfl rfl rfl rfl rfl rfl rfl ⟨rfl, rfl, rfl, rfl, rfl⟩ rfl rfl rfl rfl rfl (by kernel_rfl) Try.func4 (by kernel_rfl)
    (of_decide_eq_true (by kernel_rfl)) (by unfold Func.isWrapper; first | (rw [if_pos (by decide +kernel)]; kernel_rfl) | (rw [if_neg (by decide +kernel)]; exact ⟨rfl, rfl⟩))
    (fun os started H enc _ => fopSinks_lifted os started H enc)

/-- THE STATEMENT. -/
theorem fopSinks_holds : Rows.FopSinksSaid :=
  fopSinks_over
#print axioms fopSinks_holds
end Go.Proofs.Ytlbakakfjcmldaa
