
/- Why a clean value may not be; a product of chances, a sum of prices; greatest and least; the walk of 'IsZero'. Conditions: the values can be read. -/
import Derived.Test.YtdkmmnehlmaebaaGreatDoorSe
import Derived.Laws.FloatArith
namespace Go.Proofs.YtdkmmnehlmaebaaGreatDoor.Se
open Go.RowKit Go.NT Go.FT Go.Lib Na

def mayC (c : Con) : Int :=
  if knownB c.s then
    if natB c.s then 0
    else if levB c.s then (if decide (0 ≤ c.lv) && decide (c.lv ≤ topV c.s) then 0 else 16)
    else dblE c.s c.x
  else 9
theorem natMay_canon {b : Bool} {n : Nat} {xs : List Int} (hl : xs.length = n) (h1 : Norm xs) (h2 : b = true → xs = []) : natMay b n xs = true := by
  unfold natMay
  cases b
  · rw [show strip xs = xs from h1, hl]; simp
  · rw [h2 rfl] at hl; simp at hl; simp [← hl]
theorem may_canon {r : SV} {w : World} (h : r.ok w) (hk : r.canon) : r.may = mayC r.con := by
  unfold SV.may mayC
  rw [natMay_canon h.1.len hk.1 hk.2]
  rfl
theorem may_named {a : SV} (h : a.may = 0) : knownB a.s = true := by
  cases hk : knownB a.s
  · unfold SV.may at h; rw [hk] at h; cases h
  · rfl
theorem known_cases {s : Int} (h : knownB s = true) : s = 1 ∨ s = 2 ∨ s = 3 ∨ s = 4 ∨ s = 5 ∨ s = 6 := by
  unfold knownB at h
  simp only [Bool.and_eq_true, decide_eq_true_eq] at h
  omega
theorem may_zeroC {s : Int} (h : knownB s = true) : mayC (zeroC s) = 0 := by
  rcases known_cases h with rfl | rfl | rfl | rfl | rfl | rfl <;> decide
theorem may_oneC {s : Int} (h : knownB s = true) : mayC (oneC s) = 0 := by
  rcases known_cases h with rfl | rfl | rfl | rfl | rfl | rfl <;> decide
/-- A number that may be is clean. -/
theorem canon_of_may {a : SV} {w : World} (ho : a.ok w) (h : a.may = 0) (hn : natB a.s = true) : a.canon := by
  have hk := may_named h
  have hl := ho.1.len
  unfold SV.may at h
  rw [hk, hn] at h
  cases hm : natMay a.b a.n a.xs
  · rw [hm] at h; cases h
  · unfold natMay at hm
    cases hb : a.b
    · rw [hb] at hm
      refine ⟨?_, fun e => by rw [hb] at e; cases e⟩
      have h2 : (strip a.xs).length = a.n := by
        have h2 : ((strip a.xs).length : Int) = (a.n : Int) := by simpa using hm
        omega
      have h3 := (strip_take a.xs).1
      rw [h2, ← hl, List.take_length] at h3
      exact h3
    · rw [hb] at hm
      have h2 : a.n = 0 := by simpa using hm
      rw [h2] at hl
      have h3 := List.eq_nil_of_length_eq_zero hl
      exact ⟨by rw [h3]; exact Norm.nil, fun _ => h3⟩
theorem bothE_zero {a b : SV} : bothE a b = 0 ↔ a.may = 0 ∧ b.may = 0 ∧ a.s = b.s := by
  unfold bothE
  by_cases h1 : a.may = 0
  · by_cases h2 : b.may = 0
    · by_cases h3 : a.s = b.s
      · simp [h1, h2, h3]
      · simp [h1, h2, h3]
    · simp [h1, h2]
  · simp [h1]
def isZE (a : SV) : Bool := (a.may == 0) && sameC a.con (zeroC a.s)
theorem isZE_of {a r : SV} {w : World} (ho : r.ok w) (hc : r.con = zeroC a.s) (hk : r.canon) : sameE a r = isZE a := by
  have hs : r.s = a.s := by have := congrArg Con.s hc; exact this
  unfold sameE isZE
  rw [hc]
  congr 1
  rw [Bool.eq_iff_iff, beq_iff_eq, beq_iff_eq, bothE_zero]
  constructor
  · intro h; exact h.1
  · intro h
    exact ⟨h, by rw [may_canon ho hk, hc]; exact may_zeroC (may_named h), hs.symm⟩
theorem clr_of {x m : Nat} (h : x ≤ m) (hm : m ≤ INF) : okB x m = true ∧ clr x = x := by
  have : INF < SGN := by decide
  refine ⟨decide_eq_true (Or.inl h), ?_⟩
  unfold clr
  rw [if_neg (by omega)]
set_option maxHeartbeats 400000 in
theorem times_ok (x y : Nat) (w : World) (hx : x ≤ ONE) (hy : y ≤ ONE) :
    Calls Tryz.prog 43 #[.float .f64 x, .float .f64 y] w fun e w' => e = .returned (.tuple #[.float .f64 (mulR x y), .int .i64 0]) ∧ w = w' := by
  have hO : ONE < W64 := by decide
  have hI : ONE < INF := by decide
  obtain ⟨h1, h2⟩ := clr_of hx (Nat.le_of_lt hI)
  obtain ⟨h3, h4⟩ := clr_of hy (Nat.le_of_lt hI)
  have U1 : ∀ w, Calls Tryz.prog 73 #[.float .f64 x] w fun e w' => e = .returned (.tuple #[.float .f64 x, .int .i64 0]) ∧ w = w' := fun w => by
    have := unit_any x w (by omega)
    rwa [wv_yes h1, we_yes h1, h2] at this
  have U2 : ∀ w, Calls Tryz.prog 73 #[.float .f64 y] w fun e w' => e = .returned (.tuple #[.float .f64 y, .int .i64 0]) ∧ w = w' := fun w => by
    have := unit_any y w (by omega)
    rwa [wv_yes h3, we_yes h3, h4] at this
  have em : ∀ w : World, (binOp .mul 25 (.float .f64 x) (.float .f64 y)).run Tryz.prog w = .ok (.float .f64 (mulR x y)) w := fun w => by
    have e : floatBits .mul .f64 x y = some (mulR x y) := mul_fin (by omega) (by omega)
    exact run_float_arith w .mul 25 .f64 _ _ _ e
  have V1 := Lib.hid U1
  have V2 := Lib.hid U2
  clear U1 U2 h1 h2 h3 h4 hx hy hO hI
  go_enter Tryz.func43, Tryz.ntmps43
  go_wp2_with (first | (go_at_call 73; (with_reducible refine (V1.out _).mono ?_); rintro e w' ⟨rfl, rfl⟩) | (go_at_call 73; (with_reducible refine (V2.out _).mono ?_); rintro e w' ⟨rfl, rfl⟩))
  go_ret2
  exact ⟨rfl, rfl⟩
set_option maxHeartbeats 400000 in
theorem plus_ok (x y : Nat) (w : World) (hx : x ≤ INF) (hy : y ≤ INF) :
    Calls Tryz.prog 44 #[.float .f64 x, .float .f64 y] w fun e w' => e = .returned (.tuple #[.float .f64 (addR x y), .int .i64 0]) ∧ w = w' := by
  have hI : INF < W64 := by decide
  obtain ⟨h1, h2⟩ := clr_of hx (Nat.le_refl _)
  obtain ⟨h3, h4⟩ := clr_of hy (Nat.le_refl _)
  have U1 : ∀ w, Calls Tryz.prog 74 #[.float .f64 x] w fun e w' => e = .returned (.tuple #[.float .f64 x, .int .i64 0]) ∧ w = w' := fun w => by
    have := price_any x w (by omega)
    rwa [wv_yes h1, we_yes h1, h2] at this
  have U2 : ∀ w, Calls Tryz.prog 74 #[.float .f64 y] w fun e w' => e = .returned (.tuple #[.float .f64 y, .int .i64 0]) ∧ w = w' := fun w => by
    have := price_any y w (by omega)
    rwa [wv_yes h3, we_yes h3, h4] at this
  have em : ∀ w : World, (binOp .add 25 (.float .f64 x) (.float .f64 y)).run Tryz.prog w = .ok (.float .f64 (addR x y)) w := fun w => by
    have e : floatBits .add .f64 x y = some (addR x y) := add_fin hx hy
    exact run_float_arith w .add 25 .f64 _ _ _ e
  have V1 := Lib.hid U1
  have V2 := Lib.hid U2
  clear U1 U2 h1 h2 h3 h4 hx hy hI
  go_enter Tryz.func44, Tryz.ntmps44
  go_wp2_with (first | (go_at_call 74; (with_reducible refine (V1.out _).mono ?_); rintro e w' ⟨rfl, rfl⟩) | (go_at_call 74; (with_reducible refine (V2.out _).mono ?_); rintro e w' ⟨rfl, rfl⟩))
  go_ret2
  exact ⟨rfl, rfl⟩
theorem neg_fin {x : Nat} (h : x ≤ INF) : (FloatKind.f64.decode x).neg = false := by
  show (D.read x).neg = false
  by_cases e : x = INF
  · subst e; rw [read_inf]; rfl
  · rw [read_fin (by omega)]; rfl
theorem run_max (ts : Array TypeId) (t : TypeId) {x y : Nat} (hx : x ≤ INF) (hy : y ≤ INF) (w : World) :
    (Builtin.max_ ts t #[.float .f64 x, .float .f64 y]).run Tryz.prog w = .ok (.float .f64 (max x y)) w := by
  have ho : FloatKind.f64.format.order x y = some (compare x y) := order_fin hx hy
  have h1 : (Builtin.max_ ts t #[.float .f64 x, .float .f64 y]) = Builtin.max2 (.float .f64 x) (.float .f64 y) := by
    simp [Builtin.max_]
  rw [h1]
  unfold Builtin.max2
  simp only [ho]
  rw [cmp_nat]
  by_cases a : x < y
  · rw [if_pos a, Nat.max_eq_right (by omega)]; rfl
  · by_cases b : x = y
    · subst b; rw [if_neg a, if_pos rfl, neg_fin hx, Nat.max_self]; rfl
    · rw [if_neg a, if_neg b, Nat.max_eq_left (by omega)]; rfl
theorem run_min (ts : Array TypeId) (t : TypeId) {x y : Nat} (hx : x ≤ INF) (hy : y ≤ INF) (w : World) :
    (Builtin.min_ ts t #[.float .f64 x, .float .f64 y]).run Tryz.prog w = .ok (.float .f64 (min x y)) w := by
  have ho : FloatKind.f64.format.order x y = some (compare x y) := order_fin hx hy
  have h1 : (Builtin.min_ ts t #[.float .f64 x, .float .f64 y]) = Builtin.min2 (.float .f64 x) (.float .f64 y) := by
    simp [Builtin.min_]
  rw [h1]
  unfold Builtin.min2
  simp only [ho]
  rw [cmp_nat]
  by_cases a : x < y
  · rw [if_pos a, Nat.min_eq_left (by omega)]; rfl
  · by_cases b : x = y
    · subst b; rw [if_neg a, if_pos rfl, neg_fin hx, Nat.min_self]; rfl
    · rw [if_neg a, if_neg b, Nat.min_eq_right (by omega)]; rfl
theorem run_imax (ts : Array TypeId) (t : TypeId) (x y : Int) (w : World) :
    (Builtin.max_ ts t #[.int .i64 x, .int .i64 y]).run Tryz.prog w = .ok (.int .i64 (max x y)) w := by
  have h1 : (Builtin.max_ ts t #[.int .i64 x, .int .i64 y]) = Builtin.max2 (.int .i64 x) (.int .i64 y) := by
    simp [Builtin.max_]
  rw [h1]
  show (pure (Value.int .i64 (if y > x then y else x)) : Sem Value).run Tryz.prog w = _
  by_cases a : x < y
  · rw [show max x y = y by omega, if_pos a]; rfl
  · rw [show max x y = x by omega, if_neg a]; rfl
theorem run_imin (ts : Array TypeId) (t : TypeId) (x y : Int) (w : World) :
    (Builtin.min_ ts t #[.int .i64 x, .int .i64 y]).run Tryz.prog w = .ok (.int .i64 (min x y)) w := by
  have h1 : (Builtin.min_ ts t #[.int .i64 x, .int .i64 y]) = Builtin.min2 (.int .i64 x) (.int .i64 y) := by
    simp [Builtin.min_]
  rw [h1]
  show (pure (Value.int .i64 (if y < x then y else x)) : Sem Value).run Tryz.prog w = _
  by_cases a : y < x
  · rw [show min x y = y by omega, if_pos a]; rfl
  · rw [show min x y = x by omega, if_neg a]; rfl
set_option maxRecDepth 100000 in
set_option maxHeartbeats 1000000 in
theorem isZero_any (a : SV) (w : World) (ha : a.ok w) : Calls Tryz.prog 25 #[a.v] w fun e w' => e = .returned (.bool (isZE a)) ∧ Below w.heap.size w w' := by
  have hF := Lib.hid (five_new w a ha)
  have h0 := Lib.hid (below_al (Below.refl w.heap.size w) (.cells #[.int .i64 a.s, .bool a.b, .slice a.A a.n a.c, .int .i64 a.lv, .float .f64 a.x] 27))
  obtain ⟨p0, p1, p2, p3, p4, _⟩ := hF.out
  clear ha
  unfold SV.v
  go_enter Tryz.func25, Tryz.ntmps25
  go_wp2_with fail
  generalize w.alloc (.cells #[.int .i64 a.s, .bool a.b, .slice a.A a.n a.c, .int .i64 a.lv, .float .f64 a.x] 27) = W at *
  have HG := Lib.hid (fun w1 (hb1 : Below W.drew.heap.size W.drew w1) => And.intro (hF.out.drew.go hb1) (below_go (below_dr h0.out) hb1))
  go_region_held3 (fun w' => w'.cell? ⟨w.heap.size, 0, none⟩ = some (.int .i64 a.s) ∧ w'.cell? ⟨w.heap.size, 1, none⟩ = some (.bool a.b) ∧ w'.cell? ⟨w.heap.size, 2, none⟩ = some (.slice a.A a.n a.c) ∧ w'.cell? ⟨w.heap.size, 3, none⟩ = some (.int .i64 a.lv) ∧ w'.cell? ⟨w.heap.size, 4, none⟩ = some (.float .f64 a.x))
    (first | with_reducible exact ⟨p0, p1, p2, p3, p4⟩ | exact ⟨p0, p1, p2, p3, p4⟩) ((first
    | (go_at_call 33; (with_reducible refine (least_any a.s _ 0).mono ?_); rintro e w1 ⟨r, rfl, ho, hC, hc, hn, hb1⟩; obtain ⟨hF1, h1⟩ := HG.out w1 hb1; have H1 := Lib.hid h1; have HF1 := Lib.hid hF1; have HO := Lib.hid ho; obtain ⟨p0, p1, p2, p3, p4, _⟩ := hF1)
    | (go_at_call 23; (with_reducible refine (same_sv a r _ HF1.out.ok HO.out).mono ?_); rintro e w2 ⟨rfl, hb2⟩; have H2 := Lib.hid (below_go H1.out hb2); obtain ⟨p0, p1, p2, p3, p4, _⟩ := HF1.out.go hb2)))
  all_goals
    go_wp2_with fail
    go_ret
    exact ⟨by rw [← isZE_of HO.out hC.out hc.out]; rfl, H2.out⟩
end Go.Proofs.YtdkmmnehlmaebaaGreatDoor.Se
