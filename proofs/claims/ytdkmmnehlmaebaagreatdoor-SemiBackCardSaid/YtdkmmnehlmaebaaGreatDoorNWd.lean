
/- The walk of adding. Conditions: the digits can be read. -/
import Derived.Test.YtdkmmnehlmaebaaGreatDoorNWc
import Derived.Test.YtdkmmnehlmaebaaGreatDoorNTx
namespace Go.Proofs.YtdkmmnehlmaebaaGreatDoor.Na
open Go.RowKit Go.NT

/-- What a number means: 'none' is the infinite one. -/
def mean (b : Bool) (xs : List Int) : Option Int := if b then none else some (val xs)
def addM : Option Int → Option Int → Option Int
  | some x, some y => some (x + y)
  | _, _ => none
def mulM : Option Int → Option Int → Option Int
  | some x, some y => some (x * y)
  | some x, none => if x = 0 then some 0 else none
  | none, some y => if y = 0 then some 0 else none
  | none, none => none
def cmpM : Option Int → Option Int → Int
  | some x, some y => cmpI x y
  | some _, none => -1
  | none, some _ => 1
  | none, none => 0

/-- A number returned: what it means, in digits without noughts at the end, of which there are at most N. -/
def NR (w w' : World) (e : Ending) (m : Option Int) (N : Nat) : Prop :=
  ∃ (b : Bool) (A : Option Addr) (n c : Nat) (rs : List Int), e = .returned (.agg #[.bool b, .slice A n c]) ∧ NV w' A n c rs ∧ Hid (mean b rs = m) ∧ Hid (Norm rs) ∧ Hid (b = true → rs = []) ∧ Hid (n ≤ N) ∧ Below w.heap.size w w'
theorem Reads.nil (w : World) (B : Nat) : Reads w B 1 none 0 (([] : List Int).map (Value.int .u32)) := Reads.none_
theorem NV.nil (w : World) : NV w none 0 0 [] := ⟨Reads.nil _ _, by omega, U32.nil, by omega⟩
theorem NR.inf {w w' : World} {N : Nat} (h : Below w.heap.size w w') : NR w w' (.returned (.agg #[.bool true, .slice none 0 0])) none N :=
  ⟨true, none, 0, 0, [], rfl, NV.nil _, Lib.hid rfl, Lib.hid Norm.nil, Lib.hid fun _ => rfl, Lib.hid (Nat.zero_le _), h⟩
theorem NR.zero {w w' : World} {N : Nat} (h : Below w.heap.size w w') : NR w w' (.returned (.agg #[.bool false, .slice none 0 0])) (some 0) N :=
  ⟨false, none, 0, 0, [], rfl, NV.nil _, Lib.hid rfl, Lib.hid Norm.nil, Lib.hid fun _ => rfl, Lib.hid (Nat.zero_le _), h⟩

theorem below_al3 (w : World) (a b c : Obj) : Below w.heap.size w (((w.alloc a).alloc b).alloc c) := below_al (below_al (below_al (Below.refl _ _) _) _) _
theorem Reads.al3 {w : World} {n : Nat} {A : Option Addr} {xs : List Value} (h : Reads w w.heap.size 1 A n xs) (a b c : Obj) : Reads (((w.alloc a).alloc b).alloc c) w.heap.size 1 A n xs :=
  h.below (below_al3 w a b c)

theorem inf_eq (w : World) : Calls Tryz.prog 45 #[] w fun e w' => e = .returned (.agg #[.bool true, .slice none 0 0]) ∧ w' = w.alloc (.cells #[.bool true, .slice none 0 0] 24) := by
  go_enter Tryz.func45, Tryz.ntmps45
  go_wp2_with fail
  exact bodyPost_ret (v := .agg #[.bool true, .slice none 0 0]) (by simp [results, Tryz.results45, go_sem]) rfl ⟨rfl, rfl⟩

set_option maxHeartbeats 1000000 in
theorem add_inf (b b' : Bool) (hb : (b || b') = true) (A A' : Option Addr) (n n' c c' N : Nat) (xs ys : List Int) (w : World) (_hx : NV w A n c xs) (_hy : NV w A' n' c' ys) :
    Calls Tryz.prog 38 #[.agg #[.bool b, .slice A n c], .agg #[.bool b', .slice A' n' c']] w fun e w' => NR w w' e (addM (mean b xs) (mean b' ys)) N := by
  have hm : Hid (addM (mean b xs) (mean b' ys) = none) := Lib.hid (by cases b <;> cases b' <;> first | rfl | (cases hb))
  cases b <;> cases b'
  · cases hb
  all_goals
    go_enter Tryz.func38, Tryz.ntmps38
    go_wp2_with (go_at_call 45; refine (inf_eq _).mono ?_; rintro e w' ⟨rfl, rfl⟩)
    rw [hm.out]
    exact bodyPost_ret (v := .agg #[.bool true, .slice none 0 0]) (by simp [results, Tryz.results38, go_sem]) rfl (NR.inf (below_al (below_al3 _ _ _ _) _))


theorem Reads.getU {w : World} {base g n c : Nat} {L : List Int} (h : w.ownsRow base 67 1 (.slice (some ⟨g, 0, none⟩) n c) n (L.map (Value.int .u32))) {k : Nat} (hk : k < n) :
    w.cell? ⟨g, k, none⟩ = some (.int .u32 (L.getD k 0)) ∧ w.frozen? ⟨g, k, none⟩ = false := by
  have hl : L.length = n := by have := h.1; simpa using this
  refine ⟨?_, h.frozenAt k⟩
  rw [h.cellAt k (by omega), List.getElem?_map, List.getElem?_eq_getElem (by omega : k < L.length), List.getD_eq_getElem?_getD, List.getElem?_eq_getElem (by omega : k < L.length)]; rfl
theorem own_at {w : World} {base n c : Nat} {A : Option Addr} {xs : List Value} (h : w.ownsRow base 67 1 (.slice A n c) n xs) (hn : 0 < n) : ∃ g, A = some ⟨g, 0, none⟩ ∧ base ≤ g := by
  obtain ⟨g, cap, hv, hb, _⟩ := h.form hn
  exact ⟨g, by injection hv, hb⟩
theorem own_set {w w0 : World} {base g n c : Nat} {L : List Int} (h : w.ownsRow base 67 1 (.slice (some ⟨g, 0, none⟩) n c) n (L.map (Value.int .u32))) (k : Nat) (x : Int) (hb : Below base w0 w) (hg : base ≤ g) :
    (w.setCell ⟨g, k, none⟩ (.int .u32 x)).ownsRow base 67 1 (.slice (some ⟨g, 0, none⟩) n c) n ((L.set k x).map (Value.int .u32)) ∧ Below base w0 (w.setCell ⟨g, k, none⟩ (.int .u32 x)) := by
  refine ⟨?_, hb.setCell (p := ⟨g, k, none⟩) hg _⟩
  have := (h.stored k (.int .u32 x)).1
  rwa [← List.map_set] at this

theorem NR.of_own {w w2 : World} {base bk n2 c2 N : Nat} {A2 : Option Addr} {L : List Int} {m : Int} (hown : w2.ownsRow base 67 1 (.slice A2 n2 c2) n2 (L.map (Value.int .u32))) (h0 : w.heap.size ≤ bk) (h1 : bk < base)
    (hb : Below w.heap.size w w2) (hu : U32 L) (hc : n2 ≤ c2) (hm : n2 ≤ 9223372036854775807) (hv : Hid (val (strip L) = m)) (hN : n2 ≤ N) (u v : Value) :
    NR w ((w2.setCell ⟨bk, 0, none⟩ u).setCell ⟨bk, 1, none⟩ v) (.returned (.agg #[.bool false, .slice A2 (strip L).length c2])) (some m) N := by
  have hl : L.length = n2 := by have := hown.1; simpa using this
  have h2 := (strip_take L).2
  refine ⟨false, A2, _, c2, strip L, rfl, ⟨whole_reads (Reads.of_own (ownsRow_setCell_below (ownsRow_setCell_below hown (a := ⟨bk, 0, none⟩) h1 u) (a := ⟨bk, 1, none⟩) h1 v)), by omega, hu.strip, by omega⟩, Lib.hid ?_, Lib.hid (Norm.strip _), Lib.hid (fun h => by cases h), Lib.hid (by omega), (hb.setCell (p := ⟨bk, 0, none⟩) h0 u).setCell (p := ⟨bk, 1, none⟩) h0 v⟩
  rw [← hv.out]; rfl

set_option maxRecDepth 100000 in
set_option maxHeartbeats 2000000 in
theorem add_fin (A A' : Option Addr) (n n' c c' : Nat) (xs ys : List Int) (w : World) (hx : NV w A n c xs) (hy : NV w A' n' c' ys) (hn : n ≤ 1099511627776) (hn' : n' ≤ 1099511627776) :
    Calls Tryz.prog 38 #[.agg #[.bool false, .slice A n c], .agg #[.bool false, .slice A' n' c']] w fun e w' => NR w w' e (some (val xs + val ys)) (max n n' + 1) := by
  obtain ⟨i60, hi, hz0, hz1, hz2⟩ := i60
  have hX := hx.strip
  have hY := hy.strip
  have e1 := val_strip xs
  have e2 := val_strip ys
  have nX := Norm.strip xs
  have nY := Norm.strip ys
  have lx2 := (strip_take xs).2
  have ly2 := (strip_take ys).2
  rw [hx.len] at lx2
  rw [hy.len] at ly2
  obtain ⟨h1, h2, h3, h4⟩ := hx
  obtain ⟨k1, k2, k3, k4⟩ := hy
  obtain ⟨X, hXd⟩ : ∃ X, X = strip xs := ⟨_, rfl⟩
  obtain ⟨Y, hYd⟩ : ∃ Y, Y = strip ys := ⟨_, rfl⟩
  rw [← hXd] at hX e1 nX lx2
  rw [← hYd] at hY e2 nY ly2
  have HV := Lib.hid (show val xs + val ys = val X + val Y by rw [e1, e2])
  have HV2 := Lib.hid (show val xs + val ys = val Y + val X by rw [e1, e2, Int.add_comm])
  have HX := Lib.hid hXd.symm
  have HY := Lib.hid hYd.symm
  have uX := hX.2.2.1
  have uY := hY.2.2.1
  have rX := hX.1
  have rY := hY.1
  clear e1 e2 hXd hYd hX hY
  by_cases hlen : X.length < Y.length
  · have hlen' : ((X.length : Int) < (Y.length : Int)) := by omega
    go_enter Tryz.func38, Tryz.ntmps38
    go_wp2_with fail
    go_quiet ((go_at_call 69; exact whole_q (by first | exact h1.al3 _ _ _ | exact k1.al3 _ _ _) (by first | exact h2 | exact k2) (by first | exact h4 | exact k4) _))
    rw [HX.out, HY.out]

    go_wp2_with (go_at_call 70; refine (clone_any _ _ _ Y _ (rY.al3 _ _ _) (below_drewN (below_al3 w _ _ _) _).size (by omega)).mono ?_; rintro e w1 ⟨A1, c1, rfl, hown, hnc, hb1⟩)
    go_wp2_with (go_at_call 70; refine (clone_any _ _ _ Y _ ((rY.al3 _ _ _).drewN _) (below_drewN (below_al3 w _ _ _) _).size (by omega)).mono ?_; rintro e w1 ⟨A1, c1, rfl, hown, hnc, hb1⟩)
    have hsz : w.heap.size + 3 = ((((w.alloc (Obj.cells #[Value.bool false, Value.slice A n c] 24)).alloc (Obj.cells #[Value.bool false, Value.slice A' n' c'] 24)).alloc (Obj.cells #[Value.bool false, Value.slice none 0 0] 24)).drewN nq).heap.size := by simp
    have hc0 : ((((w.alloc (Obj.cells #[Value.bool false, Value.slice A n c] 24)).alloc (Obj.cells #[Value.bool false, Value.slice A' n' c'] 24)).alloc (Obj.cells #[Value.bool false, Value.slice none 0 0] 24)).drewN nq).cell? ⟨w.heap.size + 1 + 1, 0, none⟩ = some (.bool false) := by go_simp
    have hc1 : ((((w.alloc (Obj.cells #[Value.bool false, Value.slice A n c] 24)).alloc (Obj.cells #[Value.bool false, Value.slice A' n' c'] 24)).alloc (Obj.cells #[Value.bool false, Value.slice none 0 0] 24)).drewN nq).cell? ⟨w.heap.size + 1 + 1, 1, none⟩ = some (.slice none 0 0) := by go_simp
    have hf0 : ((((w.alloc (Obj.cells #[Value.bool false, Value.slice A n c] 24)).alloc (Obj.cells #[Value.bool false, Value.slice A' n' c'] 24)).alloc (Obj.cells #[Value.bool false, Value.slice none 0 0] 24)).drewN nq).frozen? ⟨w.heap.size + 1 + 1, 0, none⟩ = false := by go_simp
    have hf1 : ((((w.alloc (Obj.cells #[Value.bool false, Value.slice A n c] 24)).alloc (Obj.cells #[Value.bool false, Value.slice A' n' c'] 24)).alloc (Obj.cells #[Value.bool false, Value.slice none 0 0] 24)).drewN nq).frozen? ⟨w.heap.size + 1 + 1, 1, none⟩ = false := by go_simp
    have hb3 : Below w.heap.size w ((((w.alloc (Obj.cells #[Value.bool false, Value.slice A n c] 24)).alloc (Obj.cells #[Value.bool false, Value.slice A' n' c'] 24)).alloc (Obj.cells #[Value.bool false, Value.slice none 0 0] 24)).drewN nq) := below_drewN (below_al3 w _ _ _) _
    generalize ((((w.alloc (Obj.cells #[Value.bool false, Value.slice A n c] 24)).alloc (Obj.cells #[Value.bool false, Value.slice A' n' c'] 24)).alloc (Obj.cells #[Value.bool false, Value.slice none 0 0] 24)).drewN nq) = W3 at *
    rw [← hsz] at hown hb1
    go_loopw [8, 34] (fun cv iv wr => ∃ (k : Nat) (L : List Int) (cc : Int), k ≤ Y.length ∧ cv = .int .u64 cc ∧ iv = .int .i64 k ∧ wr.ownsRow (w.heap.size + 3) 67 1 (.slice A1 Y.length c1) Y.length (L.map (Value.int .u32)) ∧ Below (w.heap.size + 3) W3 wr ∧ Hid (AddInv Y X k L cc)) (fun _ iv _ => Y.length - (intOf iv).toNat)
    case atStart => exact ⟨0, Y, 0, Nat.zero_le _, rfl, rfl, hown, hb1, Lib.hid (AddInv.start uY)⟩
    case round =>
      obtain ⟨k, L, cc, hk, rfl, rfl, hown2, hb2, hp⟩ := hrel
      by_cases hlt : k < Y.length
      · obtain ⟨g, rfl, hg⟩ := own_at hown2 (by omega)
        obtain ⟨hcl, hfz⟩ := Reads.getU hown2 hlt
        have hst := Lib.hid (hp.out.step uX hlt)
        have hLb := hp.out.u.getD k
        have hYb := uX.getD k
        have hcb := hp.out.c0
        have hcb2 := hp.out.c1
        have hos := fun x => own_set hown2 k x hb2 hg
        by_cases hyk : k < X.length
        · obtain ⟨ad, rfl, _, hcy⟩ := ((rX.below hb3).below (hb2.mono (by omega))).get hyk
          generalize L.getD k 0 = x at *
          generalize X.getD k 0 = y at *
          unfold W at *
          go_wp2_with fail
          exact ⟨⟨k + 1, _, _, by omega, rfl, by go_num, (hos _).1, (hos _).2, hst⟩, by simp [intOf]; omega⟩
        · have hy0 := getD_out (Y := X) (k := k) (by omega)
          rw [hy0, Int.add_zero] at hst
          rw [hy0] at hYb
          generalize L.getD k 0 = x at *
          unfold W at *
          clear hy0
          go_wp2_with fail
          exact ⟨⟨k + 1, _, _, by omega, rfl, by go_num, (hos _).1, (hos _).2, hst⟩, by simp [intOf]; omega⟩
      · obtain rfl : k = Y.length := by omega
        have hsum := hp.out.done (by omega)
        have hL := hown2.1
        have hcb := hp.out.c0
        have hcb2 := hp.out.c1
        have hcc : cc % W = cc := by unfold W; omega
        rw [hcc] at hsum
        have HS := Lib.hid hsum.1
        have hU := hsum.2
        clear hcc
        have hbs := hb2.size
        rw [← hsz] at hbs
        clear hsum
        unfold W at *
        go_wp2_with (first
          | (at_builtin; refine wpList_append_reads _ (Value.int .u32) (fun _ => rfl) 22 67 i60 _ 4 Tryz.underlying22 hi hz0 hz1 hz2 rfl rfl (.tmp 63) (.tmp 66) rfl (w.heap.size + 3) _ Y.length L rfl (hown2.alloc _) _ _ 1 _ [cc] rfl (Reads.lit1 _ _ _ _) (by unfold maxLen; omega) (by omega) (by simp; omega) ?_; intro A2 n2 c2 w2 hn2 hc2 hown3 hb4; have hb5 : Below (w.heap.size + 3) W3 w2 := (hb2.alloc hbs _).trans hb4; have g0 := (hb5.cell (p := ⟨w.heap.size + 1 + 1, 0, none⟩) (show w.heap.size + 1 + 1 < _ by omega)).trans hc0; have g1 := (hb5.cell (p := ⟨w.heap.size + 1 + 1, 1, none⟩) (show w.heap.size + 1 + 1 < _ by omega)).trans hc1; have g2 := (hb5.frozen (p := ⟨w.heap.size + 1 + 1, 0, none⟩) (show w.heap.size + 1 + 1 < _ by omega)).trans hf0; have g3 := (hb5.frozen (p := ⟨w.heap.size + 1 + 1, 1, none⟩) (show w.heap.size + 1 + 1 < _ by omega)).trans hf1)
          | (go_at_call 69; refine (whole_any A2 n2 c2 (L ++ [cc]) w2 (Reads.of_own hown3) hc2.out (by have := hn2.out; omega)).mono ?_; rintro e w' ⟨rfl, rfl⟩))
        rw [HV2.out]
        exact bodyPost_ret (v := .agg #[.bool false, .slice A2 (strip (L ++ [cc])).length c2]) (by simp [results, Tryz.results38, go_sem, g0, g1]) rfl (NR.of_own hown3 (by omega) (by omega) (hb3.trans (hb5.mono (by omega))) hU hc2.out (by have := hn2.out; omega) HS (by have := hn2.out; omega) _ _)
  · have hlen' : ¬ ((X.length : Int) < (Y.length : Int)) := by omega
    go_enter Tryz.func38, Tryz.ntmps38
    go_wp2_with fail
    go_quiet ((go_at_call 69; exact whole_q (by first | exact h1.al3 _ _ _ | exact k1.al3 _ _ _) (by first | exact h2 | exact k2) (by first | exact h4 | exact k4) _))
    rw [HX.out, HY.out]

    go_wp2_with (go_at_call 70; refine (clone_any _ _ _ X _ (rX.al3 _ _ _) (below_drewN (below_al3 w _ _ _) _).size (by omega)).mono ?_; rintro e w1 ⟨A1, c1, rfl, hown, hnc, hb1⟩)
    go_wp2_with (go_at_call 70; refine (clone_any _ _ _ X _ ((rX.al3 _ _ _).drewN _) (below_drewN (below_al3 w _ _ _) _).size (by omega)).mono ?_; rintro e w1 ⟨A1, c1, rfl, hown, hnc, hb1⟩)
    have hsz : w.heap.size + 3 = ((((w.alloc (Obj.cells #[Value.bool false, Value.slice A n c] 24)).alloc (Obj.cells #[Value.bool false, Value.slice A' n' c'] 24)).alloc (Obj.cells #[Value.bool false, Value.slice none 0 0] 24)).drewN nq).heap.size := by simp
    have hc0 : ((((w.alloc (Obj.cells #[Value.bool false, Value.slice A n c] 24)).alloc (Obj.cells #[Value.bool false, Value.slice A' n' c'] 24)).alloc (Obj.cells #[Value.bool false, Value.slice none 0 0] 24)).drewN nq).cell? ⟨w.heap.size + 1 + 1, 0, none⟩ = some (.bool false) := by go_simp
    have hc1 : ((((w.alloc (Obj.cells #[Value.bool false, Value.slice A n c] 24)).alloc (Obj.cells #[Value.bool false, Value.slice A' n' c'] 24)).alloc (Obj.cells #[Value.bool false, Value.slice none 0 0] 24)).drewN nq).cell? ⟨w.heap.size + 1 + 1, 1, none⟩ = some (.slice none 0 0) := by go_simp
    have hf0 : ((((w.alloc (Obj.cells #[Value.bool false, Value.slice A n c] 24)).alloc (Obj.cells #[Value.bool false, Value.slice A' n' c'] 24)).alloc (Obj.cells #[Value.bool false, Value.slice none 0 0] 24)).drewN nq).frozen? ⟨w.heap.size + 1 + 1, 0, none⟩ = false := by go_simp
    have hf1 : ((((w.alloc (Obj.cells #[Value.bool false, Value.slice A n c] 24)).alloc (Obj.cells #[Value.bool false, Value.slice A' n' c'] 24)).alloc (Obj.cells #[Value.bool false, Value.slice none 0 0] 24)).drewN nq).frozen? ⟨w.heap.size + 1 + 1, 1, none⟩ = false := by go_simp
    have hb3 : Below w.heap.size w ((((w.alloc (Obj.cells #[Value.bool false, Value.slice A n c] 24)).alloc (Obj.cells #[Value.bool false, Value.slice A' n' c'] 24)).alloc (Obj.cells #[Value.bool false, Value.slice none 0 0] 24)).drewN nq) := below_drewN (below_al3 w _ _ _) _
    generalize ((((w.alloc (Obj.cells #[Value.bool false, Value.slice A n c] 24)).alloc (Obj.cells #[Value.bool false, Value.slice A' n' c'] 24)).alloc (Obj.cells #[Value.bool false, Value.slice none 0 0] 24)).drewN nq) = W3 at *
    rw [← hsz] at hown hb1
    go_loopw [8, 34] (fun cv iv wr => ∃ (k : Nat) (L : List Int) (cc : Int), k ≤ X.length ∧ cv = .int .u64 cc ∧ iv = .int .i64 k ∧ wr.ownsRow (w.heap.size + 3) 67 1 (.slice A1 X.length c1) X.length (L.map (Value.int .u32)) ∧ Below (w.heap.size + 3) W3 wr ∧ Hid (AddInv X Y k L cc)) (fun _ iv _ => X.length - (intOf iv).toNat)
    case atStart => exact ⟨0, X, 0, Nat.zero_le _, rfl, rfl, hown, hb1, Lib.hid (AddInv.start uX)⟩
    case round =>
      obtain ⟨k, L, cc, hk, rfl, rfl, hown2, hb2, hp⟩ := hrel
      by_cases hlt : k < X.length
      · obtain ⟨g, rfl, hg⟩ := own_at hown2 (by omega)
        obtain ⟨hcl, hfz⟩ := Reads.getU hown2 hlt
        have hst := Lib.hid (hp.out.step uY hlt)
        have hLb := hp.out.u.getD k
        have hYb := uY.getD k
        have hcb := hp.out.c0
        have hcb2 := hp.out.c1
        have hos := fun x => own_set hown2 k x hb2 hg
        by_cases hyk : k < Y.length
        · obtain ⟨ad, rfl, _, hcy⟩ := ((rY.below hb3).below (hb2.mono (by omega))).get hyk
          generalize L.getD k 0 = x at *
          generalize Y.getD k 0 = y at *
          unfold W at *
          go_wp2_with fail
          exact ⟨⟨k + 1, _, _, by omega, rfl, by go_num, (hos _).1, (hos _).2, hst⟩, by simp [intOf]; omega⟩
        · have hy0 := getD_out (Y := Y) (k := k) (by omega)
          rw [hy0, Int.add_zero] at hst
          rw [hy0] at hYb
          generalize L.getD k 0 = x at *
          unfold W at *
          clear hy0
          go_wp2_with fail
          exact ⟨⟨k + 1, _, _, by omega, rfl, by go_num, (hos _).1, (hos _).2, hst⟩, by simp [intOf]; omega⟩
      · obtain rfl : k = X.length := by omega
        have hsum := hp.out.done (by omega)
        have hL := hown2.1
        have hcb := hp.out.c0
        have hcb2 := hp.out.c1
        have hcc : cc % W = cc := by unfold W; omega
        rw [hcc] at hsum
        have HS := Lib.hid hsum.1
        have hU := hsum.2
        clear hcc
        have hbs := hb2.size
        rw [← hsz] at hbs
        clear hsum
        unfold W at *
        go_wp2_with (first
          | (at_builtin; refine wpList_append_reads _ (Value.int .u32) (fun _ => rfl) 22 67 i60 _ 4 Tryz.underlying22 hi hz0 hz1 hz2 rfl rfl (.tmp 63) (.tmp 66) rfl (w.heap.size + 3) _ X.length L rfl (hown2.alloc _) _ _ 1 _ [cc] rfl (Reads.lit1 _ _ _ _) (by unfold maxLen; omega) (by omega) (by simp; omega) ?_; intro A2 n2 c2 w2 hn2 hc2 hown3 hb4; have hb5 : Below (w.heap.size + 3) W3 w2 := (hb2.alloc hbs _).trans hb4; have g0 := (hb5.cell (p := ⟨w.heap.size + 1 + 1, 0, none⟩) (show w.heap.size + 1 + 1 < _ by omega)).trans hc0; have g1 := (hb5.cell (p := ⟨w.heap.size + 1 + 1, 1, none⟩) (show w.heap.size + 1 + 1 < _ by omega)).trans hc1; have g2 := (hb5.frozen (p := ⟨w.heap.size + 1 + 1, 0, none⟩) (show w.heap.size + 1 + 1 < _ by omega)).trans hf0; have g3 := (hb5.frozen (p := ⟨w.heap.size + 1 + 1, 1, none⟩) (show w.heap.size + 1 + 1 < _ by omega)).trans hf1)
          | (go_at_call 69; refine (whole_any A2 n2 c2 (L ++ [cc]) w2 (Reads.of_own hown3) hc2.out (by have := hn2.out; omega)).mono ?_; rintro e w' ⟨rfl, rfl⟩))
        rw [HV.out]
        exact bodyPost_ret (v := .agg #[.bool false, .slice A2 (strip (L ++ [cc])).length c2]) (by simp [results, Tryz.results38, go_sem, g0, g1]) rfl (NR.of_own hown3 (by omega) (by omega) (hb3.trans (hb5.mono (by omega))) hU hc2.out (by have := hn2.out; omega) HS (by have := hn2.out; omega) _ _)

theorem add_any (b b' : Bool) (A A' : Option Addr) (n n' c c' N : Nat) (xs ys : List Int) (w : World) (hx : NV w A n c xs) (hy : NV w A' n' c' ys) (hn : n ≤ 1099511627776) (hn' : n' ≤ 1099511627776) (hN : max n n' + 1 ≤ N) :
    Calls Tryz.prog 38 #[.agg #[.bool b, .slice A n c], .agg #[.bool b', .slice A' n' c']] w fun e w' => NR w w' e (addM (mean b xs) (mean b' ys)) N := by
  by_cases hb : (b || b') = true
  · exact add_inf b b' hb A A' n n' c c' N xs ys w hx hy
  · have : b = false ∧ b' = false := by cases b <;> cases b' <;> simp_all
    obtain ⟨rfl, rfl⟩ := this
    exact (add_fin A A' n n' c c' xs ys w hx hy hn hn').mono fun e w' ⟨b, A, m, c, rs, h1, h2, h3, h4, h5, h6, h7⟩ => ⟨b, A, m, c, rs, h1, h2, h3, h4, h5, Lib.hid (Nat.le_trans h6.out hN), h7⟩

end Go.Proofs.YtdkmmnehlmaebaaGreatDoor.Na
