
/- The walks of 'least', 'whole', 'Zero', 'One'. Conditions: none. -/
import Derived.Test.YtdkmmnehlmaebaaGreatDoorSc
namespace Go.Proofs.YtdkmmnehlmaebaaGreatDoor.Se
open Go.RowKit Go.NT Go.FT Go.FX Go.Lib Na

@[go_sem] theorem run_store_float {P : Program} {w : World} {a : Addr} {m : Mode} (k : FloatKind) (x : Nat) : (store a (.float k x) m).run P w = stored P w a (.float k x) m := run_store P w a _ m rfl
theorem SR.mk' {w w' : World} {C : Con} {N : Nat} (r : SV) (ho : r.ok w') (hc : r.con = C) (hk : r.canon) (hn : r.n ≤ N) (hb : Below w.heap.size w w') : SR w w' (.returned r.v) C N :=
  ⟨r, rfl, ho, Lib.hid hc, Lib.hid hk, Lib.hid hn, hb⟩
theorem SP.mk' {w w' : World} {C : Con} {k : Int} {N : Nat} (r : SV) (ho : r.ok w') (hc : r.con = C) (hk : r.canon) (hn : r.n ≤ N) (hb : Below w.heap.size w w') : SP w w' (.returned (.tuple #[r.v, .int .i64 k])) C k N :=
  ⟨r, rfl, ho, Lib.hid hc, Lib.hid hk, Lib.hid hn, hb⟩
theorem SP.none {w w' : World} {k : Int} {N : Nat} (hb : Below w.heap.size w w') : SP w w' (.returned (.tuple #[.agg #[.int .i64 0, .bool false, .slice none 0 0, .int .i64 0, .float .f64 0], .int .i64 k])) noneC k N :=
  SP.mk' (SV.lev 0 0) (lev_ok _ _ _) rfl (lev_canon _ _) (Nat.zero_le _) hb
theorem dblv_con (s : Int) (x : Nat) : (SV.dbl s x).con = ⟨s, some 0, 0, x⟩ := rfl
theorem levv_con (s lv : Int) : (SV.lev s lv).con = ⟨s, some 0, lv, 0⟩ := rfl

theorem nat_ok {w : World} {b : Bool} {A : Option Addr} {n c : Nat} {xs : List Int} (s : Int) (h : NV w A n c xs) : (SV.nat s b A n c xs).ok w := ⟨h, by show 0 < W64; decide⟩
theorem nat_con (s : Int) (b : Bool) (A : Option Addr) (n c : Nat) (xs : List Int) : (SV.nat s b A n c xs).con = ⟨s, mean b xs, 0, 0⟩ := rfl
set_option maxHeartbeats 1000000 in
theorem least_any (s : Int) (w : World) (N : Nat) : Calls Tryz.prog 33 #[.int .i64 s] w fun e w' => SR w w' e (zeroC s) N := by
  have h0 := fun o : Obj => below_al (Below.refl w.heap.size w) o
  have hI : INF < W64 := by decide
  cases h3 : s == 3
  · cases h6 : s == 6
    · have hC := Lib.hid (show zeroC s = ⟨s, some 0, 0, 0⟩ by unfold zeroC; rw [h3, h6]; rfl)
      go_enter Tryz.func33, Tryz.ntmps33
      go_wp2_with fail
      rw [hC.out]
      exact bodyPost_ret (v := SV.v (SV.dbl s 0)) (by simp [results, Tryz.results33, go_sem, SV.dbl]) rfl (SR.mk' (SV.dbl s 0) (dbl_ok _ _ _ (by decide)) rfl (dbl_canon _ _) (Nat.zero_le _) (h0 _))
    · have hC := Lib.hid (show zeroC s = ⟨s, some 0, 0, INF⟩ by unfold zeroC; rw [h3, h6]; rfl)
      go_enter Tryz.func33, Tryz.ntmps33
      go_wp2_with (go_at_call 65; (with_reducible refine (Go.Proofs.YtdkmmnehlmaebaaGreatDoor.inf_any _).mono ?_); rintro e w' ⟨rfl, rfl⟩)
      rw [hC.out]
      exact bodyPost_ret (v := SV.v (SV.dbl s INF)) (by simp [results, Tryz.results33, go_sem, SV.dbl]) rfl (SR.mk' (SV.dbl s INF) (dbl_ok _ _ _ hI) rfl (dbl_canon _ _) (Nat.zero_le _) (h0 _))
  · have h6 : (s == 6) = false := by rw [beq_iff_eq] at h3; rw [h3]; rfl
    have hC := Lib.hid (show zeroC s = ⟨s, none, 0, 0⟩ by unfold zeroC; rw [h3, h6]; rfl)
    go_enter Tryz.func33, Tryz.ntmps33
    go_wp2_with (go_at_call 45; (with_reducible refine (inf_eq _).mono ?_); rintro e w' ⟨rfl, rfl⟩)
    rw [hC.out]
    exact bodyPost_ret (v := SV.v (SV.nat s true none 0 0 [])) (by simp [results, Tryz.results33, go_sem, SV.nat]) rfl (SR.mk' (SV.nat s true none 0 0 []) (nat_ok _ (NV.nil _)) rfl ⟨Norm.nil, fun _ => rfl⟩ (Nat.zero_le _) (below_al (h0 _) _))
set_option maxHeartbeats 1000000 in
theorem whole_any (s : Int) (w : World) (N : Nat) (hN : 2 ≤ N) : Calls Tryz.prog 35 #[.int .i64 s] w fun e w' => SR w w' e (oneC s) N := by
  have h0 := fun o : Obj => below_al (Below.refl w.heap.size w) o
  have hI : ONE < W64 := by decide
  cases h1 : s == 1
  · cases h5 : s == 5
    · cases h2 : s == 2
      · cases h4 : s == 4
        · have hC := Lib.hid (show oneC s = ⟨s, some 0, 0, 0⟩ by unfold oneC levB; rw [h1, h5, h2, h4]; rfl)
          go_enter Tryz.func35, Tryz.ntmps35
          go_wp2_with fail
          rw [hC.out]
          exact bodyPost_ret (v := SV.v (SV.dbl s 0)) (by simp [results, Tryz.results35, go_sem, SV.dbl]) rfl (SR.mk' (SV.dbl s 0) (dbl_ok _ _ _ (by decide)) rfl (dbl_canon _ _) (Nat.zero_le _) (h0 _))
        · have hC := Lib.hid (show oneC s = ⟨s, some 0, topV s, 0⟩ by unfold oneC levB; rw [h1, h5, h2, h4]; rfl)
          go_enter Tryz.func35, Tryz.ntmps35
          go_wp2_with (go_at_call 52; (with_reducible refine (top_any s _).mono ?_); rintro e w' ⟨rfl, rfl⟩)
          rw [hC.out]
          exact bodyPost_ret (v := SV.v (SV.lev s (topV s))) (by simp [results, Tryz.results35, go_sem, SV.lev]) rfl (SR.mk' (SV.lev s (topV s)) (lev_ok _ _ _) rfl (lev_canon _ _) (Nat.zero_le _) (h0 _))
      · have hC := Lib.hid (show oneC s = ⟨s, some 0, topV s, 0⟩ by unfold oneC levB; rw [h1, h5, h2]; rfl)
        go_enter Tryz.func35, Tryz.ntmps35
        go_wp2_with (go_at_call 52; (with_reducible refine (top_any s _).mono ?_); rintro e w' ⟨rfl, rfl⟩)
        rw [hC.out]
        exact bodyPost_ret (v := SV.v (SV.lev s (topV s))) (by simp [results, Tryz.results35, go_sem, SV.lev]) rfl (SR.mk' (SV.lev s (topV s)) (lev_ok _ _ _) rfl (lev_canon _ _) (Nat.zero_le _) (h0 _))
    · have h2 : levB s = false := by rw [beq_iff_eq] at h5; rw [h5]; rfl
      have hC := Lib.hid (show oneC s = ⟨s, some 0, 0, ONE⟩ by unfold oneC; rw [h1, h5, h2]; rfl)
      go_enter Tryz.func35, Tryz.ntmps35
      go_wp2_with fail
      rw [hC.out]
      exact bodyPost_ret (v := SV.v (SV.dbl s ONE)) (by simp [results, Tryz.results35, go_sem, SV.dbl, ONE]) rfl (SR.mk' (SV.dbl s ONE) (dbl_ok _ _ _ hI) rfl (dbl_canon _ _) (Nat.zero_le _) (h0 _))
  · have h2 : levB s = false := by rw [beq_iff_eq] at h1; rw [h1]; rfl
    have h5 : (s == 5) = false := by rw [beq_iff_eq] at h1; rw [h1]; rfl
    have hC := Lib.hid (show oneC s = ⟨s, some 1, 0, 0⟩ by unfold oneC; rw [h1, h5, h2]; rfl)
    have hV0 := Lib.hid (var_new w (SV.lev 0 0) (lev_ok _ _ _))
    go_enter Tryz.func35, Tryz.ntmps35
    go_wp2_with (go_at_call 67; (with_reducible refine (of_nr 1 _ (by decide) (by decide)).mono ?_); rintro e w1 ⟨b, A, n, c, rs, rfl, hv, hm, hk, hi, hn, hb1⟩; obtain ⟨⟨p0, p1, p2, p3, p4, _⟩, hvb, f0, f1, f2, f3, f4⟩ := hV0.out.go hb1)
    rw [hC.out]
    have ho := (nat_ok (b := b) s hv).set5 hvb s b A n c 0 0
    exact bodyPost_ret (v := SV.v (SV.nat s b A n c rs)) (by simp [results, Tryz.results35, go_sem, SV.nat, p0, p1, p2, p3, p4]) rfl
      (SR.mk' (SV.nat s b A n c rs) ho (by rw [nat_con, hm.out]) ⟨hk.out, hi.out⟩ (Nat.le_trans hn.out hN) (below_5 (below_go (h0 _) hb1) (Nat.le_refl _) _ _ _ _ _))
set_option maxHeartbeats 1000000 in
theorem zero_any (s : Int) (w : World) (N : Nat) : Calls Tryz.prog 8 #[.int .i64 s] w fun e w' => SP w w' e (if knownB s then zeroC s else noneC) (if knownB s then 0 else 9) N := by
  have h0 := fun o : Obj => below_al (Below.refl w.heap.size w) o
  cases hk : knownB s
  · have HK := Lib.hid hk
    clear hk
    go_enter Tryz.func8, Tryz.ntmps8
    go_wp2_with (go_at_call 32; (with_reducible refine (known_any s _).mono ?_); rw [HK.out]; rintro e w' ⟨rfl, rfl⟩)
    exact bodyPost_ret (v := .tuple #[.agg #[.int .i64 0, .bool false, .slice none 0 0, .int .i64 0, .float .f64 0], .int .i64 9]) (by simp [results, Tryz.results8, go_sem]) rfl (SP.none (h0 _))
  · have HK := Lib.hid hk
    clear hk
    have hV0 := Lib.hid (var_new w (SV.lev 0 0) (lev_ok _ _ _))
    go_enter Tryz.func8, Tryz.ntmps8
    go_wp2_with (first
      | (go_at_call 32; (with_reducible refine (known_any s _).mono ?_); rw [HK.out]; rintro e w' ⟨rfl, rfl⟩)
      | (go_at_call 33; (with_reducible refine (least_any s _ N).mono ?_); rintro e w1 ⟨r, rfl, ho, hC, hc, hn, hb1⟩; obtain ⟨⟨p0, p1, p2, p3, p4, _⟩, hvb, f0, f1, f2, f3, f4⟩ := hV0.out.go hb1))
    exact bodyPost_ret (v := .tuple #[r.v, .int .i64 0]) (by simp [results, Tryz.results8, go_sem, p0, p1, p2, p3, p4]) rfl
      (SP.mk' r (ho.set5 hvb _ _ _ _ _ _ _) hC.out hc.out hn.out (below_5 (below_go (h0 _) hb1) (Nat.le_refl _) _ _ _ _ _))
set_option maxHeartbeats 1000000 in
theorem one_any (s : Int) (w : World) (N : Nat) (hN : 2 ≤ N) : Calls Tryz.prog 10 #[.int .i64 s] w fun e w' => SP w w' e (if knownB s then oneC s else noneC) (if knownB s then 0 else 9) N := by
  have h0 := fun o : Obj => below_al (Below.refl w.heap.size w) o
  cases hk : knownB s
  · have HK := Lib.hid hk
    clear hk
    go_enter Tryz.func10, Tryz.ntmps10
    go_wp2_with (go_at_call 32; (with_reducible refine (known_any s _).mono ?_); rw [HK.out]; rintro e w' ⟨rfl, rfl⟩)
    exact bodyPost_ret (v := .tuple #[.agg #[.int .i64 0, .bool false, .slice none 0 0, .int .i64 0, .float .f64 0], .int .i64 9]) (by simp [results, Tryz.results10, go_sem]) rfl (SP.none (h0 _))
  · have HK := Lib.hid hk
    clear hk
    have hV0 := Lib.hid (var_new w (SV.lev 0 0) (lev_ok _ _ _))
    go_enter Tryz.func10, Tryz.ntmps10
    go_wp2_with (first
      | (go_at_call 32; (with_reducible refine (known_any s _).mono ?_); rw [HK.out]; rintro e w' ⟨rfl, rfl⟩)
      | (go_at_call 35; (with_reducible refine (whole_any s _ N hN).mono ?_); rintro e w1 ⟨r, rfl, ho, hC, hc, hn, hb1⟩; obtain ⟨⟨p0, p1, p2, p3, p4, _⟩, hvb, f0, f1, f2, f3, f4⟩ := hV0.out.go hb1))
    exact bodyPost_ret (v := .tuple #[r.v, .int .i64 0]) (by simp [results, Tryz.results10, go_sem, p0, p1, p2, p3, p4]) rfl
      (SP.mk' r (ho.set5 hvb _ _ _ _ _ _ _) hC.out hc.out hn.out (below_5 (below_go (h0 _) hb1) (Nat.le_refl _) _ _ _ _ _))
end Go.Proofs.YtdkmmnehlmaebaaGreatDoor.Se
