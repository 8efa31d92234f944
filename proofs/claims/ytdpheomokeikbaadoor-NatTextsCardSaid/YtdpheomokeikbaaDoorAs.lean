/- The walk of the law NatAsks. Conditions: the digits can be read; the table of powers is laid. -/
import Derived.Test.YtdpheomokeikbaaDoorRg
namespace Go.Proofs.YtdpheomokeikbaaDoor
open Go.RowKit Go.NT Go.Lib

def L2 (a b : Nat) : Nat → Nat
  | 0 => a
  | 1 => b
  | _ => 0
def F2 (a b : Option Addr) : Nat → Option Addr
  | 0 => a
  | _ => b
theorem small2 (g : Nat) (A1 A2 : Option Addr) (n1 n2 c1 c2 : Nat) (t : Bool) (ht : Hid (decide (n1 ≤ 100 ∧ n2 ≤ 100) = t)) (w : World)
    (h1 : n1 ≤ 9223372036854775807) (h2 : n2 ≤ 9223372036854775807)
    (k1 : w.cell? ⟨g, 1, none⟩ = some (.slice A1 n1 c1)) (k2 : w.cell? ⟨g, 3, none⟩ = some (.slice A2 n2 c2)) :
    Calls Tryd.prog 10 #[.slice (some ⟨g, 0, none⟩) 2 2] w fun e w' => e = .returned (.bool t) ∧ w' = w := by
  refine (small_any g (L2 n1 n2) (L2 c1 c2) (F2 A1 A2) 2 2 w (by omega) (by omega) ?_ ?_).mono ?_
  · intro i hi
    match i, hi with
    | 0, _ => exact k1
    | 1, _ => exact k2
  · intro i
    match i with
    | 0 => exact h1
    | 1 => exact h2
    | _ + 2 => exact Nat.zero_le _
  · rintro e w' ⟨rfl, rfl⟩
    refine ⟨?_, rfl⟩
    rw [← ht.out]
    congr 2
    rw [decide_eq_decide]
    constructor
    · intro h; exact ⟨h 0 (by omega), h 1 (by omega)⟩
    · rintro ⟨a, b⟩ i hi
      match i, hi with
      | 0, _ => exact a
      | 1, _ => exact b
theorem nr_eq {b b' : Bool} {r r' : List Int} (u : U32 r) (u' : U32 r') (h : mean b r = mean b' r') (n : Norm r) (n' : Norm r') (i : b = true → r = []) (i' : b' = true → r' = []) : b = b' ∧ r = r' := by
  cases b <;> cases b'
  · exact ⟨rfl, NT.inj u u' n n' (Option.some.inj h)⟩
  · cases h
  · cases h
  · exact ⟨rfl, (i rfl).trans (i' rfl).symm⟩
theorem same_of (A A' : Option Addr) (n n' c c' : Nat) (xs : List Int) (w : World) (hx : NV w A n c xs) (hy : NV w A' n' c' xs) :
    Calls Tryd.prog 18 #[.agg #[.bool false, .slice A n c], .agg #[.bool false, .slice A' n' c']] w fun e w' => e = .returned (.bool true) ∧ Below w.heap.size w w' := by
  obtain rfl : n = n' := hx.len.symm.trans hy.len
  exact same_true false A A' n c c' xs w hx hy
theorem same_num (b b' : Bool) (A A' : Option Addr) (n n' c c' : Nat) (r r' : List Int) (w : World) (hx : NV w A n c r) (hy : NV w A' n' c' r') (h : Hid (mean b r = mean b' r')) (k : Hid (Norm r)) (k' : Hid (Norm r')) (i : Hid (b = true → r = [])) (i' : Hid (b' = true → r' = [])) :
    Calls Tryd.prog 18 #[.agg #[.bool b, .slice A n c], .agg #[.bool b', .slice A' n' c']] w fun e w' => e = .returned (.bool true) ∧ Below w.heap.size w w' := by
  obtain ⟨rfl, rfl⟩ := nr_eq hx.2.2.1 hy.2.2.1 h.out k.out k'.out i.out i'.out
  obtain rfl : n = n' := hx.len.symm.trans hy.len
  exact same_true b A A' n c c' r w hx hy
theorem rcompare_is (b b' : Bool) (A A' : Option Addr) (n n' c c' : Nat) (xs ys : List Int) (w : World) (hx : NV w A n c xs) (hy : NV w A' n' c' ys) (hn : n ≤ 1099511627776) (hn' : n' ≤ 1099511627776) {k : Int} (hk : Hid (cmpM (mean b xs) (mean b' ys) = k)) :
    Calls Tryd.prog 21 #[.agg #[.bool b, .slice A n c], .agg #[.bool b', .slice A' n' c']] w fun e w' => e = .returned (.int .i64 k) ∧ Below w.heap.size w w' := by
  rw [← hk.out]
  exact rcompare_any b b' A A' n n' c c' xs ys w hx hy hn hn'
theorem same_to (b b' : Bool) (A A' : Option Addr) (n n' c c' : Nat) (xs ys : List Int) (w : World) (hx : NV w A n c xs) (hy : NV w A' n' c' ys) {t : Bool} (ht : Hid (decide (mean b xs = mean b' ys) = t)) :
    Calls Tryd.prog 16 #[.agg #[.bool b, .slice A n c], .agg #[.bool b', .slice A' n' c']] w fun e w' => e = .returned (.bool t) ∧ Below w.heap.size w w' := by
  rw [← ht.out]
  exact same_any b b' A A' n n' c c' xs ys w hx hy
theorem may_is (b : Bool) (A : Option Addr) (n c : Nat) (xs : List Int) (w : World) (h : NV w A n c xs) {t : Bool} (ht : Hid ((if b then ((n : Int) == 0) else (((strip xs).length : Int) == (n : Int))) = t)) :
    Calls Tryd.prog 22 #[.agg #[.bool b, .slice A n c]] w fun e w' => e = .returned (.bool t) ∧ Below w.heap.size w w' := by
  rw [← ht.out]
  exact may_any b A n c xs w h
theorem rmay_is (b : Bool) (A : Option Addr) (n c : Nat) (xs : List Int) (w : World) (h : NV w A n c xs) {t : Bool} (ht : Hid ((if b then ((n : Int) == 0) else (((strip xs).length : Int) == (n : Int))) = t)) :
    Calls Tryd.prog 23 #[.agg #[.bool b, .slice A n c]] w fun e w' => e = .returned (.bool t) ∧ Below w.heap.size w w' := by
  rw [← ht.out]
  exact rmay_any b A n c xs w h
theorem radd_any (b b' : Bool) (A A' : Option Addr) (n n' c c' N : Nat) (xs ys : List Int) (w : World) (hx : NV w A n c xs) (hy : NV w A' n' c' ys) (hn : n ≤ 1099511627776) (hn' : n' ≤ 1099511627776) (hN : max n n' + 1 ≤ N) :
    Calls Tryd.prog 19 #[.agg #[.bool b, .slice A n c], .agg #[.bool b', .slice A' n' c']] w fun e w' => NR w w' e (addM (mean b xs) (mean b' ys)) N := by
  cases b <;> cases b'
  · exact radd_fin A A' n n' c c' N xs ys w hx hy hn hn' hN
  · exact radd_ti A A' n n' c c' N xs ys w hx hy hn hn' hN
  · exact radd_it A A' n n' c c' N xs ys w hx hy hn hn' hN
  · exact radd_ii A A' n n' c c' N xs ys w hx hy hn hn' hN
set_option maxRecDepth 100000 in
set_option maxHeartbeats 2000000 in
theorem asks_big (w : World) (ht : Tab w) (b1 b2 : Bool) (A1 A2 : Option Addr) (n1 n2 c1 c2 : Nat) (x : Int) (h1 : n1 ≤ 9223372036854775807) (h2 : n2 ≤ 9223372036854775807) (hs : ¬ (n1 ≤ 100 ∧ n2 ≤ 100)) :
    Calls Tryd.prog 6 #[.agg #[.bool b1, .slice A1 n1 c1], .agg #[.bool b2, .slice A2 n2 c2], .int .u64 x] w fun e w' => e = .returned (.bool true) ∧ Below w.heap.size w w' := by
  have hs' := Lib.hid (decide_eq_false hs)
  clear hs
  have hB : ∀ o1 o2 o3 : Obj, Below w.heap.size w (((w.alloc o1).alloc o2).alloc o3) := fun o1 o2 o3 => below_al3 w o1 o2 o3
  go_enter Tryd.func6, Tryd.ntmps6
  go_wp2_with (first
    | (go_at_call 10; (with_reducible refine (small2 _ A1 A2 n1 n2 c1 c2 false hs' _ h1 h2 (by go_simp) (by go_simp)).mono ?_); rintro e w1 ⟨rfl, rfl⟩)
    | (go_at_call 11; (with_reducible refine (awake_any _ (ht.below (hB _ _ _))).mono ?_); rintro e w2 ⟨rfl, hb2⟩))
  go_ret
  exact ⟨rfl, below_go (hB _ _ _) hb2⟩
set_option maxRecDepth 100000 in
set_option maxHeartbeats 8000000 in
theorem asks_small (w : World) (ht : Tab w) (b1 b2 : Bool) (A1 A2 : Option Addr) (n1 n2 c1 c2 : Nat) (xs ys : List Int) (x : Int) (hx : NV w A1 n1 c1 xs) (hy : NV w A2 n2 c2 ys) (h1 : n1 ≤ 100) (h2 : n2 ≤ 100) (hx0 : 0 ≤ x) (hx1 : x < 18446744073709551616) :
    Calls Tryd.prog 6 #[.agg #[.bool b1, .slice A1 n1 c1], .agg #[.bool b2, .slice A2 n2 c2], .int .u64 x] w fun e w' => e = .returned (.bool true) ∧ Below w.heap.size w w' := by
  have hs' : Hid (decide (n1 ≤ 100 ∧ n2 ≤ 100) = true) := Lib.hid (decide_eq_true ⟨h1, h2⟩)
  have hB : ∀ o1 o2 o3 : Obj, Below w.heap.size w (((w.alloc o1).alloc o2).alloc o3) := fun o1 o2 o3 => below_al3 w o1 o2 o3
  obtain ⟨K, hK0⟩ : ∃ K, K = cmpM (mean b1 xs) (mean b2 ys) := ⟨_, rfl⟩
  obtain ⟨T, hT0⟩ : ∃ T : Bool, T = decide (mean b1 xs = mean b2 ys) := ⟨_, rfl⟩
  obtain ⟨M, hM0⟩ : ∃ M : Bool, M = (if b1 then ((n1 : Int) == 0) else (((strip xs).length : Int) == (n1 : Int))) := ⟨_, rfl⟩
  have hKT : (K == 0) = T := by rw [hK0, hT0, Bool.eq_iff_iff, beq_iff_eq, cmpM_eq0, decide_eq_true_iff]
  have hK := Lib.hid hK0.symm
  have hT := Lib.hid hT0.symm
  have hM := Lib.hid hM0.symm
  clear hK0 hT0 hM0
  go_enter Tryd.func6, Tryd.ntmps6
  go_wp2_with (go_at_call 10; (with_reducible refine (small2 _ A1 A2 n1 n2 c1 c2 true hs' _ (by omega) (by omega) (by go_simp) (by go_simp)).mono ?_); rintro e w1 ⟨rfl, rfl⟩)
  have hG : G w (((w.alloc (Obj.cells #[Value.bool b1, Value.slice A1 n1 c1] 24)).alloc (Obj.cells #[Value.bool b2, Value.slice A2 n2 c2] 24)).alloc (Obj.cells #[Value.bool b1, Value.slice A1 n1 c1, Value.bool b2, Value.slice A2 n2 c2] 24)) := ⟨hB _ _ _, ht.below (hB _ _ _)⟩
  have k1 : Box (((w.alloc (Obj.cells #[Value.bool b1, Value.slice A1 n1 c1] 24)).alloc (Obj.cells #[Value.bool b2, Value.slice A2 n2 c2] 24)).alloc (Obj.cells #[Value.bool b1, Value.slice A1 n1 c1, Value.bool b2, Value.slice A2 n2 c2] 24)) w.heap.size b1 A1 n1 c1 xs := ⟨by go_simp, by go_simp, by first | (simp; done) | (simp; omega), hx.below (hB _ _ _)⟩
  have k2 : Box (((w.alloc (Obj.cells #[Value.bool b1, Value.slice A1 n1 c1] 24)).alloc (Obj.cells #[Value.bool b2, Value.slice A2 n2 c2] 24)).alloc (Obj.cells #[Value.bool b1, Value.slice A1 n1 c1, Value.bool b2, Value.slice A2 n2 c2] 24)) (w.heap.size + 1) b2 A2 n2 c2 ys := ⟨by go_simp, by go_simp, by first | (simp; done) | (simp; omega), hy.below (hB _ _ _)⟩
  have p1 := k1.1
  have q1 := k1.2.1
  have p2 := k2.1
  have q2 := k2.2.1
  clear hB hs' hx hy ht
  generalize (((w.alloc (Obj.cells #[Value.bool b1, Value.slice A1 n1 c1] 24)).alloc (Obj.cells #[Value.bool b2, Value.slice A2 n2 c2] 24)).alloc (Obj.cells #[Value.bool b1, Value.slice A1 n1 c1, Value.bool b2, Value.slice A2 n2 c2] 24)) = W at *

  go_region_held3 (fun w' => w'.cell? ⟨w.heap.size, 0, none⟩ = some (.bool b1) ∧ w'.cell? ⟨w.heap.size, 1, none⟩ = some (.slice A1 n1 c1) ∧ w'.cell? ⟨(w.heap.size + 1), 0, none⟩ = some (.bool b2) ∧ w'.cell? ⟨(w.heap.size + 1), 1, none⟩ = some (.slice A2 n2 c2)) (first | exact ⟨p1, q1, p2, q2⟩) (first
    | (go_at_call 13; (with_reducible refine (add_any b1 b2 A1 A2 n1 n2 c1 c2 210 xs ys _ (by first | exact k1.nv | exact k1.drew.nv) (by first | exact k2.nv | exact k2.drew.nv) (by omega) (by omega) (by omega)).mono ?_); rintro e wab ⟨bab, Aab, nab, cab, rab, rfl, hvab, hmab, hrab, hiab, hNab, hbab⟩; have hNab := hNab.out; (first | (have hG := G.go hG hbab) | (have hG := G.go (G.drew hG) hbab)); (first | (have k1 := Box.go k1 hbab) | (have k1 := Box.go (Box.drew k1) hbab)); (first | (have k2 := Box.go k2 hbab) | (have k2 := Box.go (Box.drew k2) hbab)); have p1 := k1.1; have q1 := k1.2.1; have p2 := k2.1; have q2 := k2.2.1)
    | (go_at_call 19; (with_reducible refine (radd_any b1 b2 A1 A2 n1 n2 c1 c2 210 xs ys _ (by first | exact k1.nv | exact k1.drew.nv) (by first | exact k2.nv | exact k2.drew.nv) (by omega) (by omega) (by omega)).mono ?_); rintro e wrab ⟨brab, Arab, nrab, crab, rrab, rfl, hvrab, hmrab, hrrab, hirab, hNrab, hbrab⟩; have hNrab := hNrab.out; (first | (have hG := G.go hG hbrab) | (have hG := G.go (G.drew hG) hbrab)); (first | (have k1 := Box.go k1 hbrab) | (have k1 := Box.go (Box.drew k1) hbrab)); (first | (have k2 := Box.go k2 hbrab) | (have k2 := Box.go (Box.drew k2) hbrab)); have p1 := k1.1; have q1 := k1.2.1; have p2 := k2.1; have q2 := k2.2.1; try (first | (have hvab := NV.below hvab hbrab) | (have hvab := NV.below (NV.drew hvab) hbrab)))
    | (go_at_call 18; (with_reducible refine (same_num bab brab Aab Arab nab nrab cab crab rab rrab _ (by first | exact hvab | exact hvab.drew) (by first | exact hvrab | exact hvrab.drew) (Lib.hid (by rw [hmab.out, hmrab.out])) hrab hrrab hiab hirab).mono ?_); rintro e wz1 ⟨rfl, hbz1⟩; (first | (have hG := G.go hG hbz1) | (have hG := G.go (G.drew hG) hbz1)); (first | (have k1 := Box.go k1 hbz1) | (have k1 := Box.go (Box.drew k1) hbz1)); (first | (have k2 := Box.go k2 hbz1) | (have k2 := Box.go (Box.drew k2) hbz1)); have p1 := k1.1; have q1 := k1.2.1; have p2 := k2.1; have q2 := k2.2.1)
    | (go_at_call 14; (with_reducible refine (mul_any b1 b2 A1 A2 n1 n2 c1 c2 210 xs ys _ (by first | exact k1.nv | exact k1.drew.nv) (by first | exact k2.nv | exact k2.drew.nv) (by omega) (by omega) (by omega)).mono ?_); rintro e wmab ⟨bmab, Amab, nmab, cmab, rmab, rfl, hvmab, hmmab, hrmab, himab, hNmab, hbmab⟩; have hNmab := hNmab.out; (first | (have hG := G.go hG hbmab) | (have hG := G.go (G.drew hG) hbmab)); (first | (have k1 := Box.go k1 hbmab) | (have k1 := Box.go (Box.drew k1) hbmab)); (first | (have k2 := Box.go k2 hbmab) | (have k2 := Box.go (Box.drew k2) hbmab)); have p1 := k1.1; have q1 := k1.2.1; have p2 := k2.1; have q2 := k2.2.1)
    | (go_at_call 20; (with_reducible refine (rmul_any b1 b2 A1 A2 n1 n2 c1 c2 210 xs ys _ (by first | exact k1.nv | exact k1.drew.nv) (by first | exact k2.nv | exact k2.drew.nv) (by omega) (by omega) (by omega)).mono ?_); rintro e wrmab ⟨brmab, Armab, nrmab, crmab, rrmab, rfl, hvrmab, hmrmab, hrrmab, hirmab, hNrmab, hbrmab⟩; have hNrmab := hNrmab.out; (first | (have hG := G.go hG hbrmab) | (have hG := G.go (G.drew hG) hbrmab)); (first | (have k1 := Box.go k1 hbrmab) | (have k1 := Box.go (Box.drew k1) hbrmab)); (first | (have k2 := Box.go k2 hbrmab) | (have k2 := Box.go (Box.drew k2) hbrmab)); have p1 := k1.1; have q1 := k1.2.1; have p2 := k2.1; have q2 := k2.2.1; try (first | (have hvmab := NV.below hvmab hbrmab) | (have hvmab := NV.below (NV.drew hvmab) hbrmab)))
    | (go_at_call 18; (with_reducible refine (same_num bmab brmab Amab Armab nmab nrmab cmab crmab rmab rrmab _ (by first | exact hvmab | exact hvmab.drew) (by first | exact hvrmab | exact hvrmab.drew) (Lib.hid (by rw [hmmab.out, hmrmab.out])) hrmab hrrmab himab hirmab).mono ?_); rintro e wz2 ⟨rfl, hbz2⟩; (first | (have hG := G.go hG hbz2) | (have hG := G.go (G.drew hG) hbz2)); (first | (have k1 := Box.go k1 hbz2) | (have k1 := Box.go (Box.drew k1) hbz2)); (first | (have k2 := Box.go k2 hbz2) | (have k2 := Box.go (Box.drew k2) hbz2)); have p1 := k1.1; have q1 := k1.2.1; have p2 := k2.1; have q2 := k2.2.1)
    | (go_at_call 12; (with_reducible refine (compare_is b1 b2 A1 A2 n1 n2 c1 c2 xs ys _ (by first | exact k1.nv | exact k1.drew.nv) (by first | exact k2.nv | exact k2.drew.nv) (k := K) hK).mono ?_); rintro e wz3 ⟨rfl, hbz3⟩; (first | (have hG := G.go hG hbz3) | (have hG := G.go (G.drew hG) hbz3)); (first | (have k1 := Box.go k1 hbz3) | (have k1 := Box.go (Box.drew k1) hbz3)); (first | (have k2 := Box.go k2 hbz3) | (have k2 := Box.go (Box.drew k2) hbz3)); have p1 := k1.1; have q1 := k1.2.1; have p2 := k2.1; have q2 := k2.2.1)
    | (go_at_call 21; (with_reducible refine (rcompare_is b1 b2 A1 A2 n1 n2 c1 c2 xs ys _ (by first | exact k1.nv | exact k1.drew.nv) (by first | exact k2.nv | exact k2.drew.nv) (by omega) (by omega) hK).mono ?_); rintro e wz4 ⟨rfl, hbz4⟩; (first | (have hG := G.go hG hbz4) | (have hG := G.go (G.drew hG) hbz4)); (first | (have k1 := Box.go k1 hbz4) | (have k1 := Box.go (Box.drew k1) hbz4)); (first | (have k2 := Box.go k2 hbz4) | (have k2 := Box.go (Box.drew k2) hbz4)); have p1 := k1.1; have q1 := k1.2.1; have p2 := k2.1; have q2 := k2.2.1)
    | (go_at_call 16; (with_reducible refine (same_to b1 b2 A1 A2 n1 n2 c1 c2 xs ys _ (by first | exact k1.nv | exact k1.drew.nv) (by first | exact k2.nv | exact k2.drew.nv) hT).mono ?_); rintro e wz5 ⟨rfl, hbz5⟩; (first | (have hG := G.go hG hbz5) | (have hG := G.go (G.drew hG) hbz5)); (first | (have k1 := Box.go k1 hbz5) | (have k1 := Box.go (Box.drew k1) hbz5)); (first | (have k2 := Box.go k2 hbz5) | (have k2 := Box.go (Box.drew k2) hbz5)); have p1 := k1.1; have q1 := k1.2.1; have p2 := k2.1; have q2 := k2.2.1)
    | (go_at_call 22; (with_reducible refine (may_is b1 A1 n1 c1 xs _ (by first | exact k1.nv | exact k1.drew.nv) hM).mono ?_); rintro e wz6 ⟨rfl, hbz6⟩; (first | (have hG := G.go hG hbz6) | (have hG := G.go (G.drew hG) hbz6)); (first | (have k1 := Box.go k1 hbz6) | (have k1 := Box.go (Box.drew k1) hbz6)); (first | (have k2 := Box.go k2 hbz6) | (have k2 := Box.go (Box.drew k2) hbz6)); have p1 := k1.1; have q1 := k1.2.1; have p2 := k2.1; have q2 := k2.2.1)
    | (go_at_call 23; (with_reducible refine (rmay_is b1 A1 n1 c1 xs _ (by first | exact k1.nv | exact k1.drew.nv) hM).mono ?_); rintro e wz7 ⟨rfl, hbz7⟩; (first | (have hG := G.go hG hbz7) | (have hG := G.go (G.drew hG) hbz7)); (first | (have k1 := Box.go k1 hbz7) | (have k1 := Box.go (Box.drew k1) hbz7)); (first | (have k2 := Box.go k2 hbz7) | (have k2 := Box.go (Box.drew k2) hbz7)); have p1 := k1.1; have q1 := k1.2.1; have p2 := k2.1; have q2 := k2.2.1)
    | (go_at_call 15; (with_reducible refine (of_any x _ hx0 hx1).mono ?_); rintro e wo1 ⟨Ao1, no1, co1, rfl, hvo1, hbo1⟩; (first | (have hG := G.go hG hbo1) | (have hG := G.go (G.drew hG) hbo1)); (first | (have k1 := Box.go k1 hbo1) | (have k1 := Box.go (Box.drew k1) hbo1)); (first | (have k2 := Box.go k2 hbo1) | (have k2 := Box.go (Box.drew k2) hbo1)); have p1 := k1.1; have q1 := k1.2.1; have p2 := k2.1; have q2 := k2.2.1)
    | (go_at_call 24; (with_reducible refine (ofnat_any x _ hx0 hx1).mono ?_); rintro e wo2 ⟨Ao2, no2, co2, rfl, hvo2, hbo2⟩; (first | (have hG := G.go hG hbo2) | (have hG := G.go (G.drew hG) hbo2)); (first | (have k1 := Box.go k1 hbo2) | (have k1 := Box.go (Box.drew k1) hbo2)); (first | (have k2 := Box.go k2 hbo2) | (have k2 := Box.go (Box.drew k2) hbo2)); have p1 := k1.1; have q1 := k1.2.1; have p2 := k2.1; have q2 := k2.2.1; try (first | (have hvo1 := NV.below hvo1 hbo2) | (have hvo1 := NV.below (NV.drew hvo1) hbo2)))
    | (go_at_call 18; (with_reducible refine (same_of Ao1 Ao2 no1 no2 co1 co2 (ofD x) _ (by first | exact hvo1 | exact hvo1.drew) (by first | exact hvo2 | exact hvo2.drew)).mono ?_); rintro e wz8 ⟨rfl, hbz8⟩; (first | (have hG := G.go hG hbz8) | (have hG := G.go (G.drew hG) hbz8)); (first | (have k1 := Box.go k1 hbz8) | (have k1 := Box.go (Box.drew k1) hbz8)); (first | (have k2 := Box.go k2 hbz8) | (have k2 := Box.go (Box.drew k2) hbz8)); have p1 := k1.1; have q1 := k1.2.1; have p2 := k2.1; have q2 := k2.2.1)
    | (go_at_call 11; (with_reducible refine (awake_any _ (by first | exact hG.tab | exact hG.drew.tab)).mono ?_); rintro e wz9 ⟨rfl, hbz9⟩; (first | (have hG := G.go hG hbz9) | (have hG := G.go (G.drew hG) hbz9)); (first | (have k1 := Box.go k1 hbz9) | (have k1 := Box.go (Box.drew k1) hbz9)); (first | (have k2 := Box.go k2 hbz9) | (have k2 := Box.go (Box.drew k2) hbz9)); have p1 := k1.1; have q1 := k1.2.1; have p2 := k2.1; have q2 := k2.2.1))
  all_goals
    go_wp2_with fail
    go_ret
    exact ⟨rfl, hG.below⟩
theorem natAsks_law (w : World) (ht : Tab w) (b1 : Bool) (A1 : Option Addr) (n1 c1 : Nat) (xs : List Int) (hx : NV w A1 n1 c1 xs) (b2 : Bool) (A2 : Option Addr) (n2 c2 : Nat) (ys : List Int) (hy : NV w A2 n2 c2 ys) (x : Int) (hx0 : 0 ≤ x) (hx1 : x < 18446744073709551616) :
    Calls Tryd.prog 6 #[.agg #[.bool b1, .slice A1 n1 c1], .agg #[.bool b2, .slice A2 n2 c2], .int .u64 x] w fun e w' => e = .returned (.bool true) ∧ Below w.heap.size w w' := by
  by_cases hs : n1 ≤ 100 ∧ n2 ≤ 100
  · obtain ⟨h1, h2⟩ := hs
    exact asks_small w ht b1 b2 A1 A2 n1 n2 c1 c2 xs ys x hx hy h1 h2 hx0 hx1
  · exact asks_big w ht b1 b2 A1 A2 n1 n2 c1 c2 x hx.2.2.2 hy.2.2.2 hs
end Go.Proofs.YtdpheomokeikbaaDoor
