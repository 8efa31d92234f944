/- The document's numbers as values want them; its Zero and One. Conditions: the digits can be read. -/
import Derived.Test.YtdkmmnehlmaebaaGreatDoorNRg
import Derived.Test.YtdkmmnehlmaebaaGreatDoorSw
namespace Go.Proofs.YtdkmmnehlmaebaaGreatDoor.Se
open Go.RowKit Go.NT Go.FT Go.FX Go.Lib Na

theorem radd_any (b b' : Bool) (A A' : Option Addr) (n n' c c' N : Nat) (xs ys : List Int) (w : World) (hx : NV w A n c xs) (hy : NV w A' n' c' ys) (hn : n ≤ 1099511627776) (hn' : n' ≤ 1099511627776) (hN : max n n' + 1 ≤ N) :
    Calls Tryz.prog 71 #[.agg #[.bool b, .slice A n c], .agg #[.bool b', .slice A' n' c']] w fun e w' => NR w w' e (addM (mean b xs) (mean b' ys)) N := by
  cases b <;> cases b'
  · exact radd_fin A A' n n' c c' N xs ys w hx hy hn hn' hN
  · exact radd_ti A A' n n' c c' N xs ys w hx hy hn hn' hN
  · exact radd_it A A' n n' c c' N xs ys w hx hy hn hn' hN
  · exact radd_ii A A' n n' c c' N xs ys w hx hy hn hn' hN
theorem clean_nr (b : Bool) (A : Option Addr) (n c N : Nat) (xs : List Int) (w : World) (hx : NV w A n c xs) (hn : n ≤ 1099511627776) (hN : n ≤ N) :
    Calls Tryz.prog 68 #[.agg #[.bool b, .slice A n c]] w fun e w' => NR w w' e (mean b xs) N := by
  refine (clean_any b A n c xs w hx (by omega)).mono ?_
  rintro e w' ⟨A1, n1, c1, rfl, hv, _, hm, hb⟩
  exact ⟨b, A1, n1, c1, cleanD b xs, rfl, hv, Lib.hid (mean_cleanD b xs), Lib.hid (cleanD_norm b xs), Lib.hid (fun h => by subst h; rfl), Lib.hid (Nat.le_trans hm.out hN), hb⟩
theorem ofnat_nr (x : Int) (w : World) (h0 : 0 ≤ x) (h1 : x < 18446744073709551616) :
    Calls Tryz.prog 36 #[.int .u64 x] w fun e w' => NR w w' e (some x) 2 := by
  refine (ofnat_any x w h0 h1).mono ?_
  rintro e w' ⟨A1, n1, c1, rfl, hv, hb⟩
  refine ⟨false, A1, n1, c1, ofD x, rfl, hv, Lib.hid ?_, Lib.hid (Norm.strip _), Lib.hid (fun h => by cases h), Lib.hid ?_, hb⟩
  · show some (val (strip [x % 4294967296, x / 4294967296])) = some x
    rw [val_strip]
    show some (x % 4294967296 + 4294967296 * (x / 4294967296 + 4294967296 * 0)) = some x
    congr 1; omega
  · rw [← hv.len]
    have := (strip_take [x % 4294967296, x / 4294967296]).2
    exact this
theorem rof_INF (w : World) : Calls Tryz.prog 34 #[.int .u64 9218868437227405312] w fun e w' => e = .returned (.float .f64 INF) ∧ w = w' := by
  have h := rof_any INF w (by decide)
  have hc : can INF = INF := can_no (by decide)
  rw [hc] at h
  exact h
set_option maxRecDepth 100000 in
set_option maxHeartbeats 1000000 in
theorem rzero_no (s : Int) (w : World) (N : Nat) (hN : 2 ≤ N) (hs : knownB s = false) : Calls Tryz.prog 9 #[.int .i64 s] w fun e w' => SP w w' e noneC 9 N := by
  have t1 : (s == 1) = false := by
    cases h : s == 1
    · rfl
    · rw [beq_iff_eq] at h; rw [h] at hs; cases hs
  have t2 : (s == 2) = false := by
    cases h : s == 2
    · rfl
    · rw [beq_iff_eq] at h; rw [h] at hs; cases hs
  have t4 : (s == 4) = false := by
    cases h : s == 4
    · rfl
    · rw [beq_iff_eq] at h; rw [h] at hs; cases hs
  have t5 : (s == 5) = false := by
    cases h : s == 5
    · rfl
    · rw [beq_iff_eq] at h; rw [h] at hs; cases hs
  have t3 : (s == 3) = false := by
    cases h : s == 3
    · rfl
    · rw [beq_iff_eq] at h; rw [h] at hs; cases hs
  have t6 : (s == 6) = false := by
    cases h : s == 6
    · rfl
    · rw [beq_iff_eq] at h; rw [h] at hs; cases hs
  have h0 := Lib.hid (below_al (Below.refl w.heap.size w) (.cells #[.int .i64 0, .bool false, .slice none 0 0, .int .i64 0, .float .f64 0] 27))
  clear hs
  have hV0 := Lib.hid (var_new w (SV.lev 0 0) (lev_ok _ _ _))
  go_enter Tryz.func9, Tryz.ntmps9
  go_wp2_with fail
  exact bodyPost_ret (v := .tuple #[.agg #[.int .i64 0, .bool false, .slice none 0 0, .int .i64 0, .float .f64 0], .int .i64 9]) (by simp [results, Tryz.results9, go_sem]) rfl (SP.none (by first | exact below_al (Below.refl _ _) _ | exact below_5 h0.out (Nat.le_refl _) _ _ _ _ _))
set_option maxRecDepth 100000 in
set_option maxHeartbeats 1000000 in
theorem rzero_1 (s : Int) (w : World) (N : Nat) (hN : 2 ≤ N) (hs : s = 1) : Calls Tryz.prog 9 #[.int .i64 s] w fun e w' => SP w w' e (zeroC s) 0 N := by
  have t1 : (s == 1) = true := by rw [hs]; rfl
  have h0 := Lib.hid (below_al (Below.refl w.heap.size w) (.cells #[.int .i64 0, .bool false, .slice none 0 0, .int .i64 0, .float .f64 0] 27))
  have hC := Lib.hid (show zeroC s = ⟨s, some 0, 0, 0⟩ by rw [hs]; rfl)
  clear hs
  have hV0 := Lib.hid (var_new w (SV.lev 0 0) (lev_ok _ _ _))
  go_enter Tryz.func9, Tryz.ntmps9
  go_wp2_with fail
  rw [hC.out]
  exact bodyPost_ret (v := .tuple #[SV.v (SV.lev s 0), .int .i64 0]) (by simp [results, Tryz.results9, go_sem, SV.lev, SV.dbl, SV.nat, ONE]) rfl (SP.mk' (SV.lev s 0) (lev_ok _ _ _) rfl (lev_canon _ _) (Nat.zero_le _) (by first | exact below_al (Below.refl _ _) _ | exact below_5 h0.out (Nat.le_refl _) _ _ _ _ _))
set_option maxRecDepth 100000 in
set_option maxHeartbeats 1000000 in
theorem rzero_2 (s : Int) (w : World) (N : Nat) (hN : 2 ≤ N) (hs : s = 2) : Calls Tryz.prog 9 #[.int .i64 s] w fun e w' => SP w w' e (zeroC s) 0 N := by
  have t1 : (s == 1) = false := by rw [hs]; rfl
  have t2 : (s == 2) = true := by rw [hs]; rfl
  have h0 := Lib.hid (below_al (Below.refl w.heap.size w) (.cells #[.int .i64 0, .bool false, .slice none 0 0, .int .i64 0, .float .f64 0] 27))
  have hC := Lib.hid (show zeroC s = ⟨s, some 0, 0, 0⟩ by rw [hs]; rfl)
  clear hs
  have hV0 := Lib.hid (var_new w (SV.lev 0 0) (lev_ok _ _ _))
  go_enter Tryz.func9, Tryz.ntmps9
  go_wp2_with fail
  rw [hC.out]
  exact bodyPost_ret (v := .tuple #[SV.v (SV.lev s 0), .int .i64 0]) (by simp [results, Tryz.results9, go_sem, SV.lev, SV.dbl, SV.nat, ONE]) rfl (SP.mk' (SV.lev s 0) (lev_ok _ _ _) rfl (lev_canon _ _) (Nat.zero_le _) (by first | exact below_al (Below.refl _ _) _ | exact below_5 h0.out (Nat.le_refl _) _ _ _ _ _))
set_option maxRecDepth 100000 in
set_option maxHeartbeats 1000000 in
theorem rzero_3 (s : Int) (w : World) (N : Nat) (hN : 2 ≤ N) (hs : s = 3) : Calls Tryz.prog 9 #[.int .i64 s] w fun e w' => SP w w' e (zeroC s) 0 N := by
  have t1 : (s == 1) = false := by rw [hs]; rfl
  have t2 : (s == 2) = false := by rw [hs]; rfl
  have t4 : (s == 4) = false := by rw [hs]; rfl
  have t5 : (s == 5) = false := by rw [hs]; rfl
  have t3 : (s == 3) = true := by rw [hs]; rfl
  have h0 := Lib.hid (below_al (Below.refl w.heap.size w) (.cells #[.int .i64 0, .bool false, .slice none 0 0, .int .i64 0, .float .f64 0] 27))
  have hC := Lib.hid (show zeroC s = ⟨s, none, 0, 0⟩ by rw [hs]; rfl)
  clear hs
  have hV0 := Lib.hid (var_new w (SV.lev 0 0) (lev_ok _ _ _))
  go_enter Tryz.func9, Tryz.ntmps9
  go_wp2_with fail
  rw [hC.out]
  exact bodyPost_ret (v := .tuple #[SV.v (SV.nat s true none 0 0 []), .int .i64 0]) (by simp [results, Tryz.results9, go_sem, SV.lev, SV.dbl, SV.nat, ONE]) rfl (SP.mk' (SV.nat s true none 0 0 []) (nat_ok _ (NV.nil _)) rfl (⟨Norm.nil, fun _ => rfl⟩) (Nat.zero_le _) (by first | exact below_al (Below.refl _ _) _ | exact below_5 h0.out (Nat.le_refl _) _ _ _ _ _))
set_option maxRecDepth 100000 in
set_option maxHeartbeats 1000000 in
theorem rzero_4 (s : Int) (w : World) (N : Nat) (hN : 2 ≤ N) (hs : s = 4) : Calls Tryz.prog 9 #[.int .i64 s] w fun e w' => SP w w' e (zeroC s) 0 N := by
  have t1 : (s == 1) = false := by rw [hs]; rfl
  have t2 : (s == 2) = false := by rw [hs]; rfl
  have t4 : (s == 4) = true := by rw [hs]; rfl
  have h0 := Lib.hid (below_al (Below.refl w.heap.size w) (.cells #[.int .i64 0, .bool false, .slice none 0 0, .int .i64 0, .float .f64 0] 27))
  have hC := Lib.hid (show zeroC s = ⟨s, some 0, 0, 0⟩ by rw [hs]; rfl)
  clear hs
  have hV0 := Lib.hid (var_new w (SV.lev 0 0) (lev_ok _ _ _))
  go_enter Tryz.func9, Tryz.ntmps9
  go_wp2_with fail
  rw [hC.out]
  exact bodyPost_ret (v := .tuple #[SV.v (SV.lev s 0), .int .i64 0]) (by simp [results, Tryz.results9, go_sem, SV.lev, SV.dbl, SV.nat, ONE]) rfl (SP.mk' (SV.lev s 0) (lev_ok _ _ _) rfl (lev_canon _ _) (Nat.zero_le _) (by first | exact below_al (Below.refl _ _) _ | exact below_5 h0.out (Nat.le_refl _) _ _ _ _ _))
set_option maxRecDepth 100000 in
set_option maxHeartbeats 1000000 in
theorem rzero_5 (s : Int) (w : World) (N : Nat) (hN : 2 ≤ N) (hs : s = 5) : Calls Tryz.prog 9 #[.int .i64 s] w fun e w' => SP w w' e (zeroC s) 0 N := by
  have t1 : (s == 1) = false := by rw [hs]; rfl
  have t2 : (s == 2) = false := by rw [hs]; rfl
  have t4 : (s == 4) = false := by rw [hs]; rfl
  have t5 : (s == 5) = true := by rw [hs]; rfl
  have h0 := Lib.hid (below_al (Below.refl w.heap.size w) (.cells #[.int .i64 0, .bool false, .slice none 0 0, .int .i64 0, .float .f64 0] 27))
  have hC := Lib.hid (show zeroC s = ⟨s, some 0, 0, 0⟩ by rw [hs]; rfl)
  clear hs
  have hV0 := Lib.hid (var_new w (SV.lev 0 0) (lev_ok _ _ _))
  go_enter Tryz.func9, Tryz.ntmps9
  go_wp2_with fail
  rw [hC.out]
  exact bodyPost_ret (v := .tuple #[SV.v (SV.lev s 0), .int .i64 0]) (by simp [results, Tryz.results9, go_sem, SV.lev, SV.dbl, SV.nat, ONE]) rfl (SP.mk' (SV.lev s 0) (lev_ok _ _ _) rfl (lev_canon _ _) (Nat.zero_le _) (by first | exact below_al (Below.refl _ _) _ | exact below_5 h0.out (Nat.le_refl _) _ _ _ _ _))
set_option maxRecDepth 100000 in
set_option maxHeartbeats 1000000 in
theorem rzero_6 (s : Int) (w : World) (N : Nat) (hN : 2 ≤ N) (hs : s = 6) : Calls Tryz.prog 9 #[.int .i64 s] w fun e w' => SP w w' e (zeroC s) 0 N := by
  have t1 : (s == 1) = false := by rw [hs]; rfl
  have t2 : (s == 2) = false := by rw [hs]; rfl
  have t4 : (s == 4) = false := by rw [hs]; rfl
  have t5 : (s == 5) = false := by rw [hs]; rfl
  have t3 : (s == 3) = false := by rw [hs]; rfl
  have t6 : (s == 6) = true := by rw [hs]; rfl
  have h0 := Lib.hid (below_al (Below.refl w.heap.size w) (.cells #[.int .i64 0, .bool false, .slice none 0 0, .int .i64 0, .float .f64 0] 27))
  have hC := Lib.hid (show zeroC s = ⟨s, some 0, 0, INF⟩ by rw [hs]; rfl)
  clear hs
  have hV0 := Lib.hid (var_new w (SV.lev 0 0) (lev_ok _ _ _))
  go_enter Tryz.func9, Tryz.ntmps9
  go_wp2_with (go_at_call 34; (with_reducible refine (rof_INF _).mono ?_); rintro e w' ⟨rfl, rfl⟩)
  rw [hC.out]
  exact bodyPost_ret (v := .tuple #[SV.v (SV.dbl s INF), .int .i64 0]) (by simp [results, Tryz.results9, go_sem, SV.lev, SV.dbl, SV.nat, ONE]) rfl (SP.mk' (SV.dbl s INF) (dbl_ok _ _ _ (by decide)) rfl (dbl_canon _ _) (Nat.zero_le _) (by first | exact below_al (Below.refl _ _) _ | exact below_5 h0.out (Nat.le_refl _) _ _ _ _ _))
theorem rzero_any (s : Int) (w : World) (N : Nat) (hN : 2 ≤ N) : Calls Tryz.prog 9 #[.int .i64 s] w fun e w' => SP w w' e (if knownB s then zeroC s else noneC) (if knownB s then 0 else 9) N := by
  cases hk : knownB s
  · exact rzero_no s w N hN hk
  · rcases known_cases hk with h | h | h | h | h | h
    · exact rzero_1 s w N hN h
    · exact rzero_2 s w N hN h
    · exact rzero_3 s w N hN h
    · exact rzero_4 s w N hN h
    · exact rzero_5 s w N hN h
    · exact rzero_6 s w N hN h
set_option maxRecDepth 100000 in
set_option maxHeartbeats 1000000 in
theorem rone_no (s : Int) (w : World) (N : Nat) (hN : 2 ≤ N) (hs : knownB s = false) : Calls Tryz.prog 11 #[.int .i64 s] w fun e w' => SP w w' e noneC 9 N := by
  have t1 : (s == 1) = false := by
    cases h : s == 1
    · rfl
    · rw [beq_iff_eq] at h; rw [h] at hs; cases hs
  have t2 : (s == 2) = false := by
    cases h : s == 2
    · rfl
    · rw [beq_iff_eq] at h; rw [h] at hs; cases hs
  have t4 : (s == 4) = false := by
    cases h : s == 4
    · rfl
    · rw [beq_iff_eq] at h; rw [h] at hs; cases hs
  have t5 : (s == 5) = false := by
    cases h : s == 5
    · rfl
    · rw [beq_iff_eq] at h; rw [h] at hs; cases hs
  have t3 : (s == 3) = false := by
    cases h : s == 3
    · rfl
    · rw [beq_iff_eq] at h; rw [h] at hs; cases hs
  have t6 : (s == 6) = false := by
    cases h : s == 6
    · rfl
    · rw [beq_iff_eq] at h; rw [h] at hs; cases hs
  have h0 := Lib.hid (below_al (Below.refl w.heap.size w) (.cells #[.int .i64 0, .bool false, .slice none 0 0, .int .i64 0, .float .f64 0] 27))
  clear hs
  have hV0 := Lib.hid (var_new w (SV.lev 0 0) (lev_ok _ _ _))
  go_enter Tryz.func11, Tryz.ntmps11
  go_wp2_with fail
  exact bodyPost_ret (v := .tuple #[.agg #[.int .i64 0, .bool false, .slice none 0 0, .int .i64 0, .float .f64 0], .int .i64 9]) (by simp [results, Tryz.results11, go_sem]) rfl (SP.none (by first | exact below_al (Below.refl _ _) _ | exact below_5 h0.out (Nat.le_refl _) _ _ _ _ _))
set_option maxRecDepth 100000 in
set_option maxHeartbeats 1000000 in
theorem rone_1 (s : Int) (w : World) (N : Nat) (hN : 2 ≤ N) (hs : s = 1) : Calls Tryz.prog 11 #[.int .i64 s] w fun e w' => SP w w' e (oneC s) 0 N := by
  have t1 : (s == 1) = true := by rw [hs]; rfl
  have h0 := Lib.hid (below_al (Below.refl w.heap.size w) (.cells #[.int .i64 0, .bool false, .slice none 0 0, .int .i64 0, .float .f64 0] 27))
  have hC := Lib.hid (show oneC s = ⟨s, some 1, 0, 0⟩ by rw [hs]; rfl)
  clear hs
  have hV0 := Lib.hid (var_new w (SV.lev 0 0) (lev_ok _ _ _))
  go_enter Tryz.func11, Tryz.ntmps11
  go_wp2_with (go_at_call 36; (with_reducible refine (ofnat_nr 1 _ (by decide) (by decide)).mono ?_); rintro e w1 ⟨b, A, n, c, rs, rfl, hv, hm, hk, hi, hn, hb1⟩; obtain ⟨⟨p0, p1, p2, p3, p4, _⟩, hvb, f0, f1, f2, f3, f4⟩ := hV0.out.go hb1)
  rw [hC.out]
  have ho := (nat_ok (b := b) s hv).set5 hvb s b A n c 0 0
  exact bodyPost_ret (v := .tuple #[SV.v (SV.nat s b A n c rs), .int .i64 0]) (by simp [results, Tryz.results11, go_sem, SV.nat, p0, p1, p2, p3, p4]) rfl
    (SP.mk' (SV.nat s b A n c rs) ho (by rw [nat_con, hm.out]) ⟨hk.out, hi.out⟩ (Nat.le_trans hn.out hN) (below_5 (below_go h0.out hb1) (Nat.le_refl _) _ _ _ _ _))
set_option maxRecDepth 100000 in
set_option maxHeartbeats 1000000 in
theorem rone_2 (s : Int) (w : World) (N : Nat) (hN : 2 ≤ N) (hs : s = 2) : Calls Tryz.prog 11 #[.int .i64 s] w fun e w' => SP w w' e (oneC s) 0 N := by
  have t1 : (s == 1) = false := by rw [hs]; rfl
  have t2 : (s == 2) = true := by rw [hs]; rfl
  have h0 := Lib.hid (below_al (Below.refl w.heap.size w) (.cells #[.int .i64 0, .bool false, .slice none 0 0, .int .i64 0, .float .f64 0] 27))
  have hC := Lib.hid (show oneC s = ⟨s, some 0, 1, 0⟩ by rw [hs]; rfl)
  clear hs
  have hV0 := Lib.hid (var_new w (SV.lev 0 0) (lev_ok _ _ _))
  go_enter Tryz.func11, Tryz.ntmps11
  go_wp2_with fail
  rw [hC.out]
  exact bodyPost_ret (v := .tuple #[SV.v (SV.lev s 1), .int .i64 0]) (by simp [results, Tryz.results11, go_sem, SV.lev, SV.dbl, SV.nat, ONE]) rfl (SP.mk' (SV.lev s 1) (lev_ok _ _ _) rfl (lev_canon _ _) (Nat.zero_le _) (by first | exact below_al (Below.refl _ _) _ | exact below_5 h0.out (Nat.le_refl _) _ _ _ _ _))
set_option maxRecDepth 100000 in
set_option maxHeartbeats 1000000 in
theorem rone_3 (s : Int) (w : World) (N : Nat) (hN : 2 ≤ N) (hs : s = 3) : Calls Tryz.prog 11 #[.int .i64 s] w fun e w' => SP w w' e (oneC s) 0 N := by
  have t1 : (s == 1) = false := by rw [hs]; rfl
  have t2 : (s == 2) = false := by rw [hs]; rfl
  have t4 : (s == 4) = false := by rw [hs]; rfl
  have t5 : (s == 5) = false := by rw [hs]; rfl
  have t3 : (s == 3) = true := by rw [hs]; rfl
  have h0 := Lib.hid (below_al (Below.refl w.heap.size w) (.cells #[.int .i64 0, .bool false, .slice none 0 0, .int .i64 0, .float .f64 0] 27))
  have hC := Lib.hid (show oneC s = ⟨s, some 0, 0, 0⟩ by rw [hs]; rfl)
  clear hs
  have hV0 := Lib.hid (var_new w (SV.lev 0 0) (lev_ok _ _ _))
  go_enter Tryz.func11, Tryz.ntmps11
  go_wp2_with fail
  rw [hC.out]
  exact bodyPost_ret (v := .tuple #[SV.v (SV.lev s 0), .int .i64 0]) (by simp [results, Tryz.results11, go_sem, SV.lev, SV.dbl, SV.nat, ONE]) rfl (SP.mk' (SV.lev s 0) (lev_ok _ _ _) rfl (lev_canon _ _) (Nat.zero_le _) (by first | exact below_al (Below.refl _ _) _ | exact below_5 h0.out (Nat.le_refl _) _ _ _ _ _))
set_option maxRecDepth 100000 in
set_option maxHeartbeats 1000000 in
theorem rone_4 (s : Int) (w : World) (N : Nat) (hN : 2 ≤ N) (hs : s = 4) : Calls Tryz.prog 11 #[.int .i64 s] w fun e w' => SP w w' e (oneC s) 0 N := by
  have t1 : (s == 1) = false := by rw [hs]; rfl
  have t2 : (s == 2) = false := by rw [hs]; rfl
  have t4 : (s == 4) = true := by rw [hs]; rfl
  have h0 := Lib.hid (below_al (Below.refl w.heap.size w) (.cells #[.int .i64 0, .bool false, .slice none 0 0, .int .i64 0, .float .f64 0] 27))
  have hC := Lib.hid (show oneC s = ⟨s, some 0, 7, 0⟩ by rw [hs]; rfl)
  clear hs
  have hV0 := Lib.hid (var_new w (SV.lev 0 0) (lev_ok _ _ _))
  go_enter Tryz.func11, Tryz.ntmps11
  go_wp2_with fail
  rw [hC.out]
  exact bodyPost_ret (v := .tuple #[SV.v (SV.lev s 7), .int .i64 0]) (by simp [results, Tryz.results11, go_sem, SV.lev, SV.dbl, SV.nat, ONE]) rfl (SP.mk' (SV.lev s 7) (lev_ok _ _ _) rfl (lev_canon _ _) (Nat.zero_le _) (by first | exact below_al (Below.refl _ _) _ | exact below_5 h0.out (Nat.le_refl _) _ _ _ _ _))
set_option maxRecDepth 100000 in
set_option maxHeartbeats 1000000 in
theorem rone_5 (s : Int) (w : World) (N : Nat) (hN : 2 ≤ N) (hs : s = 5) : Calls Tryz.prog 11 #[.int .i64 s] w fun e w' => SP w w' e (oneC s) 0 N := by
  have t1 : (s == 1) = false := by rw [hs]; rfl
  have t2 : (s == 2) = false := by rw [hs]; rfl
  have t4 : (s == 4) = false := by rw [hs]; rfl
  have t5 : (s == 5) = true := by rw [hs]; rfl
  have h0 := Lib.hid (below_al (Below.refl w.heap.size w) (.cells #[.int .i64 0, .bool false, .slice none 0 0, .int .i64 0, .float .f64 0] 27))
  have hC := Lib.hid (show oneC s = ⟨s, some 0, 0, ONE⟩ by rw [hs]; rfl)
  clear hs
  have hV0 := Lib.hid (var_new w (SV.lev 0 0) (lev_ok _ _ _))
  go_enter Tryz.func11, Tryz.ntmps11
  go_wp2_with fail
  rw [hC.out]
  exact bodyPost_ret (v := .tuple #[SV.v (SV.dbl s ONE), .int .i64 0]) (by simp [results, Tryz.results11, go_sem, SV.lev, SV.dbl, SV.nat, ONE]) rfl (SP.mk' (SV.dbl s ONE) (dbl_ok _ _ _ (by decide)) rfl (dbl_canon _ _) (Nat.zero_le _) (by first | exact below_al (Below.refl _ _) _ | exact below_5 h0.out (Nat.le_refl _) _ _ _ _ _))
set_option maxRecDepth 100000 in
set_option maxHeartbeats 1000000 in
theorem rone_6 (s : Int) (w : World) (N : Nat) (hN : 2 ≤ N) (hs : s = 6) : Calls Tryz.prog 11 #[.int .i64 s] w fun e w' => SP w w' e (oneC s) 0 N := by
  have t1 : (s == 1) = false := by rw [hs]; rfl
  have t2 : (s == 2) = false := by rw [hs]; rfl
  have t4 : (s == 4) = false := by rw [hs]; rfl
  have t5 : (s == 5) = false := by rw [hs]; rfl
  have t3 : (s == 3) = false := by rw [hs]; rfl
  have t6 : (s == 6) = true := by rw [hs]; rfl
  have h0 := Lib.hid (below_al (Below.refl w.heap.size w) (.cells #[.int .i64 0, .bool false, .slice none 0 0, .int .i64 0, .float .f64 0] 27))
  have hC := Lib.hid (show oneC s = ⟨s, some 0, 0, 0⟩ by rw [hs]; rfl)
  clear hs
  have hV0 := Lib.hid (var_new w (SV.lev 0 0) (lev_ok _ _ _))
  go_enter Tryz.func11, Tryz.ntmps11
  go_wp2_with fail
  rw [hC.out]
  exact bodyPost_ret (v := .tuple #[SV.v (SV.lev s 0), .int .i64 0]) (by simp [results, Tryz.results11, go_sem, SV.lev, SV.dbl, SV.nat, ONE]) rfl (SP.mk' (SV.lev s 0) (lev_ok _ _ _) rfl (lev_canon _ _) (Nat.zero_le _) (by first | exact below_al (Below.refl _ _) _ | exact below_5 h0.out (Nat.le_refl _) _ _ _ _ _))
theorem rone_any (s : Int) (w : World) (N : Nat) (hN : 2 ≤ N) : Calls Tryz.prog 11 #[.int .i64 s] w fun e w' => SP w w' e (if knownB s then oneC s else noneC) (if knownB s then 0 else 9) N := by
  cases hk : knownB s
  · exact rone_no s w N hN hk
  · rcases known_cases hk with h | h | h | h | h | h
    · exact rone_1 s w N hN h
    · exact rone_2 s w N hN h
    · exact rone_3 s w N hN h
    · exact rone_4 s w N hN h
    · exact rone_5 s w N hN h
    · exact rone_6 s w N hN h
end Go.Proofs.YtdkmmnehlmaebaaGreatDoor.Se
