/- For the law PathGrows: paths put round a path, plain; the walks of 'Size', 'Fwd'. Conditions: the trees can be read. -/
import Derived.Test.YthbodojhddmbhaaDoorRj
import Derived.Deep.RegionHeld3
namespace Go.Proofs.YthbodojhddmbhaaDoor.Pa
open Go.RowKit Go.Lib Na Go.PN

/-- The kids of what was put round 'a' n times. -/
def tk (K : Int) : Nat → Fo
  | 0 => .nil
  | 1 => .cons 2 ⟨#[97]⟩ .nil 0 0 .nil
  | n + 2 => .cons K ⟨#[]⟩ (tk K (n + 1)) 0 0 .nil
/-- What was put round 'a' n times. -/
def tw (K : Int) (n : Nat) : Fo := tk K (n + 1)
def twS (K : Int) (n : Nat) : Int := match n with | 0 => sizeF 2 .nil 0 0 | n + 1 => sizeF K (tk K (n + 1)) 0 0
def twE (K : Int) (n : Nat) : Int := match n with | 0 => checkE 2 ⟨#[97]⟩ .nil 0 0 | n + 1 => checkE K ⟨#[]⟩ (tk K (n + 1)) 0 0
/-- What the law wants. -/
def wantE (K : Int) (n : Nat) : Int := if 20 ≤ n then 4 else if 60 < twS K n then 5 else 0
theorem tw_all6 : ∀ n : Fin 31, dp (tk 6 n.1) 1 = n.1 + 1 ∧ dp (tk 6 (n.1 + 1)) 1 = n.1 + 1 + 1 ∧ twS 6 n.1 < twS 6 (n.1 + 1) ∧ twE 6 n.1 = wantE 6 n.1 := by decide +kernel
theorem tw_all7 : ∀ n : Fin 31, dp (tk 7 n.1) 1 = n.1 + 1 ∧ dp (tk 7 (n.1 + 1)) 1 = n.1 + 1 + 1 ∧ twS 7 n.1 < twS 7 (n.1 + 1) ∧ twE 7 n.1 = wantE 7 n.1 := by decide +kernel
theorem tw_all8 : ∀ n : Fin 31, dp (tk 8 n.1) 1 = n.1 + 1 ∧ dp (tk 8 (n.1 + 1)) 1 = n.1 + 1 + 1 ∧ twS 8 n.1 < twS 8 (n.1 + 1) ∧ twE 8 n.1 = wantE 8 n.1 := by decide +kernel
theorem tw_is (K : Int) (hK : K = 6 ∨ K = 7 ∨ K = 8) (n : Nat) (hn : n ≤ 30) : dp (tk K n) 1 = n + 1 ∧ dp (tk K (n + 1)) 1 = n + 1 + 1 ∧ twS K n < twS K (n + 1) ∧ twE K n = wantE K n := by
  rcases hK with rfl | rfl | rfl
  · exact tw_all6 ⟨n, by omega⟩
  · exact tw_all7 ⟨n, by omega⟩
  · exact tw_all8 ⟨n, by omega⟩
theorem bd_tk (K : Int) (n : Nat) : Bd (tk K n) := by
  match n with
  | 0 => exact trivial
  | 1 => exact ⟨⟨by decide, by decide⟩, ⟨by decide, by decide⟩, trivial, trivial⟩
  | n + 2 => exact ⟨⟨by decide, by decide⟩, ⟨by decide, by decide⟩, bd_tk K (n + 1), trivial⟩
/-- A path that is such a tower. -/
theorem tw_nd {K : Int} {n : Nat} {a : Nd} (h : a.fo .nil = tw K n) : a.kids = tk K n ∧ sizeF a.k a.kids a.mn a.mx = twS K n ∧ checkE a.k a.l a.kids a.mn a.mx = twE K n ∧ Bd (a.fo .nil) := by
  refine ⟨?_, ?_, ?_, ?_⟩
  all_goals first | (rw [h]; exact bd_tk K (n + 1)) | skip
  all_goals
    obtain ⟨k, l, A, c, mn, mx, kids⟩ := a
    cases n with
    | zero =>
      have h' : Fo.cons k l kids mn mx .nil = .cons 2 ⟨#[97]⟩ .nil 0 0 .nil := h
      injection h' with h1 h2 h3 h4 h5 _
      all_goals (subst h1 h2 h3 h4 h5; rfl)
    | succ n =>
      have h' : Fo.cons k l kids mn mx .nil = .cons K ⟨#[]⟩ (tk K (n + 1)) 0 0 .nil := h
      injection h' with h1 h2 h3 h4 h5 _
      all_goals (subst h1 h2 h3 h4 h5; rfl)
theorem tw_up {K : Int} {n : Nat} {a : Nd} (h : a.fo .nil = tw K n) (L : Nat) : (solo K L a).fo .nil = tw K (n + 1) := by
  show Fo.cons K ⟨#[]⟩ (a.fo .nil) 0 0 .nil = Fo.cons K ⟨#[]⟩ (tk K (n + 1)) 0 0 .nil
  rw [h]; rfl
set_option maxRecDepth 100000 in
set_option maxHeartbeats 4000000 in
theorem Size_any (a : Nd) (X : List Nat) (w : World) (h : a.ok w X) (hbd : Bd (a.fo .nil)) (hd : dp a.kids 1 ≤ 40) : Calls Tryd.prog 18 #[a.v] w fun e w' => e = .returned (.int .i64 (sizeF a.k a.kids a.mn a.mx)) ∧ Below w.heap.size w w' := by
  have HD := Lib.hid (fun (w1 : World) (hb : Below w.heap.size w w1) => Deep_any a X w1 (h.below hb))
  have HS := Lib.hid (fun (w1 : World) (hb : Below w.heap.size w w1) => size_n (a.kids.sz + 1) a X w1 (by omega) (h.below hb) hbd)
  obtain ⟨k, l, A, c, mn, mx, kids⟩ := a
  unfold Nd.v at *
  simp only at HD HS hd ⊢
  have HB1 := Lib.hid ((Below.refl _ w).alloc (Nat.le_refl _) (cells5 k l A kids.len c mn mx))
  have HX := Lib.hid (fun (w2 : World) (hb : Below (w.heap.size + 1) (w.alloc (cells5 k l A kids.len c mn mx)) w2) => box_cells k l A kids.len c mn mx hb)
  have HX2 := Lib.hid (fun (w2 : World) (hb : Below (w.heap.size + 1) (w.alloc (cells5 k l A kids.len c mn mx)) w2) => box_below hb)
  have hsz2 : (w.alloc (cells5 k l A kids.len c mn mx)).heap.size = w.heap.size + 1 := by simp
  have HZ := Lib.hid hsz2
  clear hsz2 h hbd
  generalize dp kids 1 = D at *
  have td : decide (D > 40) = false := decide_eq_false (by omega)
  clear hd
  go_enter Tryd.func18, Tryd.ntmps18
  go_wp2_with (first
    | (go_at_call 17; (with_reducible refine (HD.out _ HB1.out).mono ?_); rintro e w2 ⟨rfl, hb2⟩; have hb2 := Lib.hid (HZ.out ▸ hb2); obtain ⟨x0, x1, x2, x3, x4⟩ := HX.out _ hb2.out)
    | (go_at_call 23; (with_reducible refine (HS.out _ (HX2.out _ hb2.out)).mono ?_); rintro e w3 ⟨rfl, hb3⟩))
  go_ret
  exact ⟨rfl, (HX2.out _ hb2.out).trans (hb3.mono (HX2.out _ hb2.out).size)⟩
set_option maxRecDepth 100000 in
theorem fwd_any (s : ByteArray) (w : World) : Calls Tryd.prog 16 #[.string s] w fun e w' => e = .returned (.agg #[.int .i64 2, .string s, .slice none 0 0, .int .i64 0, .int .i64 0]) ∧ Below w.heap.size w w' := by
  have HB := Lib.hid ((Below.refl w.heap.size w).alloc (Nat.le_refl _) (cells5 2 s none 0 0 0 0))
  have HZ := Lib.hid (box_cells 2 s none 0 0 0 0 (Below.refl (w.heap.size + 1) (w.alloc (cells5 2 s none 0 0 0 0))))
  go_enter Tryd.func16, Tryd.ntmps16
  go_wp2_with fail
  obtain ⟨z0, z1, z2, z3, z4⟩ := HZ.out
  exact bodyPost_ret (v := .agg #[.int .i64 2, .string s, .slice none 0 0, .int .i64 0, .int .i64 0]) (by simp [results, Tryd.results16, go_sem, z0, z1, z2, z3, z4]) rfl ⟨rfl, HB.out⟩
/-! The contracts, in the walk's own words. -/
theorem deep_is (a : Nd) (X : List Nat) (w : World) (h : a.ok w X) {D : Int} (hD : Hid (dp a.kids 1 = D)) : Calls Tryd.prog 17 #[a.v] w fun e w' => e = .returned (.int .i64 D) ∧ Below w.heap.size w w' := by
  have h1 := Deep_any a X w h
  rwa [hD.out] at h1
theorem deep_solo (K : Int) (L : Nat) (a : Nd) (X : List Nat) (w : World) (h : (solo K L a).ok w X) {D : Int} (hD : Hid (dp (a.fo .nil) 1 = D)) : Calls Tryd.prog 17 #[.agg #[.int .i64 K, .string ⟨#[]⟩, .slice (some ⟨L, 0, none⟩) 1 1, .int .i64 0, .int .i64 0]] w fun e w' => e = .returned (.int .i64 D) ∧ Below w.heap.size w w' := deep_is (solo K L a) X w h hD
theorem size_is (a : Nd) (X : List Nat) (w : World) (h : a.ok w X) (hbd : Bd (a.fo .nil)) (hd : dp a.kids 1 ≤ 40) {S : Int} (hS : Hid (sizeF a.k a.kids a.mn a.mx = S)) : Calls Tryd.prog 18 #[a.v] w fun e w' => e = .returned (.int .i64 S) ∧ Below w.heap.size w w' := by
  have h1 := Size_any a X w h hbd hd
  rwa [hS.out] at h1
theorem size_solo (K : Int) (L : Nat) (a : Nd) (X : List Nat) (w : World) (h : (solo K L a).ok w X) (hbd : Bd ((solo K L a).fo .nil)) (hd : dp (a.fo .nil) 1 ≤ 40) {S : Int} (hS : Hid (sizeF K (a.fo .nil) 0 0 = S)) : Calls Tryd.prog 18 #[.agg #[.int .i64 K, .string ⟨#[]⟩, .slice (some ⟨L, 0, none⟩) 1 1, .int .i64 0, .int .i64 0]] w fun e w' => e = .returned (.int .i64 S) ∧ Below w.heap.size w w' := size_is (solo K L a) X w h hbd hd hS
theorem checkX (a : Nd) (X : List Nat) (w : World) (h : a.ok w X) (hbd : Bd (a.fo .nil)) {E : Int} (hE : Hid (checkE a.k a.l a.kids a.mn a.mx = E)) : Calls Tryd.prog 11 #[a.v] w fun e w' => e = .returned (.int .i64 E) ∧ Below w.heap.size w w' := by
  have h1 := check_any a X w h hbd
  rwa [hE.out] at h1
theorem textX (a : Nd) (X : List Nat) (w : World) (h : a.ok w X) (hbd : Bd (a.fo .nil)) {T : List UInt8} (hT : Hid (textT a.k a.l a.kids a.mn a.mx = T)) : Calls Tryd.prog 12 #[a.v] w fun e w' => e = .returned (strV T) ∧ Below w.heap.size w w' := by
  have h1 := Text_any a X w h hbd
  rwa [hT.out] at h1
theorem solo_ok (K : Int) (w : World) {a : Nd} (P : Nat) (hP : P < w.heap.size) (ha : a.ok w [P]) : (solo K w.heap.size a).ok ((w.alloc (cells5 a.k a.l a.A a.kids.len a.c a.mn a.mx)).alloc (cells5 K ⟨#[]⟩ (some ⟨w.heap.size, 0, none⟩) 1 1 0 0)) [P] := by
  have h := (Bx.new w (.int .i64 a.k) (.string a.l) (.slice a.A a.kids.len a.c) (.int .i64 a.mn) (.int .i64 a.mx) 27).al (cells5 K ⟨#[]⟩ (some ⟨w.heap.size, 0, none⟩) 1 1 0 0)
  exact ⟨Nat.le_refl _, (show (1 : Nat) ≤ 9223372036854775807 by decide), w.heap.size, 0, a.A, a.c, rfl, by simp; omega, ⟨h.c0, h.c1, h.c2, h.c3, h.c4⟩, ha.1, ha.2.1, ((ha.al _).al _).2.2, trivial⟩

set_option maxRecDepth 100000 in
set_option maxHeartbeats 4000000 in
theorem grows_out (n k : Int) (w : World) (hG : ErG w) (hn : n < 0 ∨ 30 < n) : Calls Tryd.prog 6 #[.int .i64 n, .int .i64 k] w fun e w' => e = .returned (.bool true) ∧ Below w.heap.size w w' := by
  have hL0 := Lib.hid hG
  rcases (show n < 0 ∨ (¬ n < 0 ∧ n > 30) from by omega) with h | ⟨h, h2⟩
  · have t1 : decide (n < 0) = true := decide_eq_true h
    clear hn
    go_enter Tryd.func6, Tryd.ntmps6
    go_wp2_with (go_at_call 8; (with_reducible refine (awake_any _ hL0.out).mono ?_); rintro e wz ⟨rfl, hbz⟩)
    go_ret
    exact ⟨rfl, hbz⟩
  · have t1 : decide (n < 0) = false := decide_eq_false h
    have t2 : decide (n > 30) = true := decide_eq_true h2
    clear hn
    go_enter Tryd.func6, Tryd.ntmps6
    go_wp2_with (go_at_call 8; (with_reducible refine (awake_any _ hL0.out).mono ?_); rintro e wz ⟨rfl, hbz⟩)
    go_ret
    exact ⟨rfl, hbz⟩
set_option linter.unusedSimpArgs false in
set_option maxRecDepth 100000 in
set_option maxHeartbeats 16000000 in
theorem grows_00 (N : Nat) (k : Int) (w : World) (hG : ErG w) (hN : N ≤ 30) (hk : Hid (rnd3 k = 0)) (h20 : 20 ≤ N) :
    Calls Tryd.prog 6 #[.int .i64 (N : Int), .int .i64 k] w fun e w' => e = .returned (.bool true) ∧ Below w.heap.size w w' := by
  have t1 : decide ((N : Int) < 0) = false := decide_eq_false (by omega)
  have t2 : decide ((N : Int) > 30) = false := decide_eq_false (by omega)
  have t3 : decide ((N : Int) ≥ 20) = true := decide_eq_true (by omega)
  have hL0 := Lib.hid hG
  have HN := Lib.hid hN
  have HEE := Lib.hid (show wantE 6 N = 4 from if_pos h20)
  clear hG hN h20
  go_enter Tryd.func6, Tryd.ntmps6
  go_wp2_with (first
    | (go_at_call 14; (with_reducible refine (round_any k _).mono ?_); rintro e w1 ⟨rfl, rfl⟩; rw [hk.out])
    | (go_at_call 16; (with_reducible refine (fwd_any _ _).mono ?_); rintro e w1 ⟨rfl, hb1⟩; have HB1 := Lib.hid (((Below.refl w.heap.size w).alloc (Nat.le_refl _) (.cells #[.int .i64 6, .int .i64 7, .int .i64 8] 3)).trans (hb1.mono (by simp))); clear hb1))
  go_loopw [7] (fun iv wr => ∃ (q : Nat) (a : Nd), iv = .int .i64 q ∧ q ≤ N ∧ Hid (a.fo .nil = tw 6 q) ∧ Hid (Bx wr w1.heap.size (.int .i64 a.k) (.string a.l) (.slice a.A a.kids.len a.c) (.int .i64 a.mn) (.int .i64 a.mx)) ∧ Hid (a.ok wr [w1.heap.size]) ∧ Hid (Below w.heap.size w wr)) (fun iv _ => N - (RowKit.intOf iv).toNat)
  case atStart => exact ⟨0, ⟨2, ⟨#[97]⟩, none, 0, 0, 0, .nil⟩, rfl, Nat.zero_le _, Lib.hid rfl, Lib.hid (Bx.new w1 _ _ _ _ _ _), Lib.hid ⟨Nat.le_refl _, (show (0 : Nat) ≤ 9223372036854775807 by decide), trivial⟩, Lib.hid (HB1.out.alloc HB1.out.size _)⟩
  case round =>
    obtain ⟨q, a, rfl, hq, hf, hx, hok, hbel⟩ := hrel
    obtain ⟨n1, n2, n3, n4⟩ := tw_nd hf.out
    obtain ⟨d1, d2, d3, d4⟩ := tw_is 6 (by omega) q (by have := HN.out; omega)
    have hD2 := Lib.hid (show dp a.kids 1 = (q : Int) + 1 by rw [n1]; exact d1)
    have hd2 : dp a.kids 1 ≤ 40 := by rw [hD2.out]; have := HN.out; omega
    have Hd2 := Lib.hid hd2
    have HBD := Lib.hid n4
    have HP := Lib.hid hx.out.lt
    have HPW := Lib.hid HB1.out.size
    have hS2' := Lib.hid n2
    have hE' := Lib.hid (n3.trans d4)
    have hD1' := Lib.hid (show dp (a.fo .nil) 1 = (q : Int) + 1 + 1 by rw [hf.out]; exact d2)
    have hgt := Lib.hid d3
    obtain ⟨a0, a1, a2, a3, a4, _⟩ := hx.out
    clear n1 n2 n3 n4 d1 d2 d3 d4 hd2
    by_cases hlt : (q : Int) < N
    · have hq0 : (0 : Int) ≤ q := by omega
      have hw := IntWalk.i64_in ((q : Int) + 1 + 1) (by have := HN.out; omega)
      have hw0 := IntWalk.i64_in ((q : Int) + 1) (by have := HN.out; omega)
      obtain ⟨S2, hS2⟩ : ∃ S2, sizeF a.k a.kids a.mn a.mx = S2 := ⟨_, rfl⟩
      obtain ⟨S1, hS1⟩ : ∃ S1, sizeF 6 (a.fo .nil) 0 0 = S1 := ⟨_, rfl⟩
      have tS : decide (S1 ≤ S2) = false := decide_eq_false (by
        have e1 := (tw_nd (tw_up hf.out 0)).2.1
        have e2 : sizeF 6 (a.fo .nil) 0 0 = twS 6 (q + 1) := e1
        have := hgt.out
        rw [hS1] at e2
        have e3 := hS2'.out
        rw [hS2] at e3
        omega)
      have HS1 := Lib.hid hS1
      have HS2 := Lib.hid hS2
      clear hS1 hS2
      have hs1 : (wr.alloc (cells5 a.k a.l a.A a.kids.len a.c a.mn a.mx)).heap.size = wr.heap.size + 1 := by simp
      have HX := Lib.hid (fun (w' : World) (h : Below ((wr.alloc (cells5 a.k a.l a.A a.kids.len a.c a.mn a.mx)).alloc (cells5 6 ⟨#[]⟩ (some ⟨wr.heap.size, 0, none⟩) 1 1 0 0)).heap.size ((wr.alloc (cells5 a.k a.l a.A a.kids.len a.c a.mn a.mx)).alloc (cells5 6 ⟨#[]⟩ (some ⟨wr.heap.size, 0, none⟩) 1 1 0 0)) w') => ((hx.out.al (cells5 a.k a.l a.A a.kids.len a.c a.mn a.mx)).al (cells5 6 ⟨#[]⟩ (some ⟨wr.heap.size, 0, none⟩) 1 1 0 0)).below h)
      have HQ := Lib.hid (fun (w' : World) (h : Below ((wr.alloc (cells5 a.k a.l a.A a.kids.len a.c a.mn a.mx)).alloc (cells5 6 ⟨#[]⟩ (some ⟨wr.heap.size, 0, none⟩) 1 1 0 0)).heap.size ((wr.alloc (cells5 a.k a.l a.A a.kids.len a.c a.mn a.mx)).alloc (cells5 6 ⟨#[]⟩ (some ⟨wr.heap.size, 0, none⟩) 1 1 0 0)) w') => (show Bx w' (wr.heap.size + 1) (.int .i64 6) (.string ⟨#[]⟩) (.slice (some ⟨wr.heap.size, 0, none⟩) 1 1) (.int .i64 0) (.int .i64 0) from hs1 ▸ (Bx.new (wr.alloc (cells5 a.k a.l a.A a.kids.len a.c a.mn a.mx)) (.int .i64 6) (.string ⟨#[]⟩) (.slice (some ⟨wr.heap.size, 0, none⟩) 1 1) (.int .i64 0) (.int .i64 0) 27).below h))
      have HO := Lib.hid (fun (w' : World) (h : Below ((wr.alloc (cells5 a.k a.l a.A a.kids.len a.c a.mn a.mx)).alloc (cells5 6 ⟨#[]⟩ (some ⟨wr.heap.size, 0, none⟩) 1 1 0 0)).heap.size ((wr.alloc (cells5 a.k a.l a.A a.kids.len a.c a.mn a.mx)).alloc (cells5 6 ⟨#[]⟩ (some ⟨wr.heap.size, 0, none⟩) 1 1 0 0)) w') => (solo_ok 6 wr w1.heap.size HP.out hok.out).below h)
      have HA := Lib.hid (fun (w' : World) (h : Below ((wr.alloc (cells5 a.k a.l a.A a.kids.len a.c a.mn a.mx)).alloc (cells5 6 ⟨#[]⟩ (some ⟨wr.heap.size, 0, none⟩) 1 1 0 0)).heap.size ((wr.alloc (cells5 a.k a.l a.A a.kids.len a.c a.mn a.mx)).alloc (cells5 6 ⟨#[]⟩ (some ⟨wr.heap.size, 0, none⟩) 1 1 0 0)) w') => ((hok.out.al (cells5 a.k a.l a.A a.kids.len a.c a.mn a.mx)).al (cells5 6 ⟨#[]⟩ (some ⟨wr.heap.size, 0, none⟩) 1 1 0 0)).below h)
      have HS := Lib.hid (fun (w' : World) (h : Below ((wr.alloc (cells5 a.k a.l a.A a.kids.len a.c a.mn a.mx)).alloc (cells5 6 ⟨#[]⟩ (some ⟨wr.heap.size, 0, none⟩) 1 1 0 0)).heap.size ((wr.alloc (cells5 a.k a.l a.A a.kids.len a.c a.mn a.mx)).alloc (cells5 6 ⟨#[]⟩ (some ⟨wr.heap.size, 0, none⟩) 1 1 0 0)) w') => (⟨(HX.out w' h).c0, (HX.out w' h).c1, (HX.out w' h).c2, (HX.out w' h).c3, (HX.out w' h).c4, (HQ.out w' h).c0, (HQ.out w' h).c1, (HQ.out w' h).c2, (HQ.out w' h).c3, (HQ.out w' h).c4⟩ : w'.cell? ⟨w1.heap.size, 0, none⟩ = some (.int .i64 a.k) ∧ w'.cell? ⟨w1.heap.size, 1, none⟩ = some (.string a.l) ∧ w'.cell? ⟨w1.heap.size, 2, none⟩ = some (.slice a.A a.kids.len a.c) ∧ w'.cell? ⟨w1.heap.size, 3, none⟩ = some (.int .i64 a.mn) ∧ w'.cell? ⟨w1.heap.size, 4, none⟩ = some (.int .i64 a.mx) ∧ w'.cell? ⟨wr.heap.size + 1, 0, none⟩ = some (.int .i64 6) ∧ w'.cell? ⟨wr.heap.size + 1, 1, none⟩ = some (.string ⟨#[]⟩) ∧ w'.cell? ⟨wr.heap.size + 1, 2, none⟩ = some (.slice (some ⟨wr.heap.size, 0, none⟩) 1 1) ∧ w'.cell? ⟨wr.heap.size + 1, 3, none⟩ = some (.int .i64 0) ∧ w'.cell? ⟨wr.heap.size + 1, 4, none⟩ = some (.int .i64 0)))
      have HWW := Lib.hid ((hbel.out.alloc hbel.out.size (cells5 a.k a.l a.A a.kids.len a.c a.mn a.mx)).alloc (by have := hbel.out.size; simp; omega) (cells5 6 ⟨#[]⟩ (some ⟨wr.heap.size, 0, none⟩) 1 1 0 0))
      have HWZ := Lib.hid (show w.heap.size ≤ ((wr.alloc (cells5 a.k a.l a.A a.kids.len a.c a.mn a.mx)).alloc (cells5 6 ⟨#[]⟩ (some ⟨wr.heap.size, 0, none⟩) 1 1 0 0)).heap.size by have := hbel.out.size; simp; omega)
      clear hs1
      go_wp2_with fail
      clear a0 a1 a2 a3 a4
      have F1 := HS.out _ (Below.refl _ _)
      go_region_held3 (fun w' => w'.cell? ⟨w1.heap.size, 0, none⟩ = some (.int .i64 a.k) ∧ w'.cell? ⟨w1.heap.size, 1, none⟩ = some (.string a.l) ∧ w'.cell? ⟨w1.heap.size, 2, none⟩ = some (.slice a.A a.kids.len a.c) ∧ w'.cell? ⟨w1.heap.size, 3, none⟩ = some (.int .i64 a.mn) ∧ w'.cell? ⟨w1.heap.size, 4, none⟩ = some (.int .i64 a.mx) ∧ w'.cell? ⟨wr.heap.size + 1, 0, none⟩ = some (.int .i64 6) ∧ w'.cell? ⟨wr.heap.size + 1, 1, none⟩ = some (.string ⟨#[]⟩) ∧ w'.cell? ⟨wr.heap.size + 1, 2, none⟩ = some (.slice (some ⟨wr.heap.size, 0, none⟩) 1 1) ∧ w'.cell? ⟨wr.heap.size + 1, 3, none⟩ = some (.int .i64 0) ∧ w'.cell? ⟨wr.heap.size + 1, 4, none⟩ = some (.int .i64 0)) (first | exact F1) (first
        | (go_at_call 17; (with_reducible refine (deep_solo 6 wr.heap.size a [w1.heap.size] _ (HO.out _ (Below.refl _ _).drew) hD1').mono ?_); rintro e w2 ⟨rfl, hb2⟩; have HB2 := Lib.hid (below_go (Below.refl _ _).drew hb2); have F1 := HS.out _ HB2.out; clear hb2)
        | (go_at_call 17; (with_reducible refine (deep_is a [w1.heap.size] _ (HA.out _ HB2.out) hD2).mono ?_); rintro e w3 ⟨rfl, hb3⟩; have HB2 := Lib.hid (below_go HB2.out hb3); have F1 := HS.out _ HB2.out; clear hb3)
        | (go_at_call 18; (with_reducible refine (size_solo 6 wr.heap.size a [w1.heap.size] _ (HO.out _ HB2.out) (bd_solo HBD.out _ _) (by rw [hD1'.out]; have := HN.out; omega) HS1).mono ?_); rintro e w4 ⟨rfl, hb4⟩; have HB2 := Lib.hid (below_go HB2.out hb4); have F1 := HS.out _ HB2.out; clear hb4)
        | (go_at_call 18; (with_reducible refine (size_is a [w1.heap.size] _ (HA.out _ HB2.out) HBD.out Hd2.out HS2).mono ?_); rintro e w5 ⟨rfl, hb5⟩; have HB2 := Lib.hid (below_go HB2.out hb5); have F1 := HS.out _ HB2.out; clear hb5))
      all_goals
        have HXX := Lib.hid (HX.out _ HB2.out)
        have HOO := Lib.hid (HO.out _ HB2.out)
        have HB3 := Lib.hid (HWW.out.trans (HB2.out.mono HWZ.out))
        obtain ⟨x0, x1, x2, x3, x4, f0, f1, f2, f3, f4⟩ := HXX.out
        obtain ⟨_, _, _, _, _, y0, y1, y2, y3, y4⟩ := F1
        go_wp2_with fail
        exact ⟨⟨q + 1, solo 6 wr.heap.size a, by go_num, by omega, Lib.hid (tw_up hf.out _), Lib.hid HXX.out.w5, Lib.hid (HOO.out.w5 (by simp)), Lib.hid (((((HB3.out.setCell HPW.out _).setCell HPW.out _).setCell HPW.out _).setCell HPW.out _).setCell HPW.out _)⟩, by simp [RowKit.intOf]; omega⟩
    · have hqN : q = N := by omega
      subst hqN
      have LL := Lib.hid (hL0.out.below hbel.out)
      have BB := hbel
      have HX := hx
      have HO := hok
      have HE := Lib.hid (hE'.out.trans HEE.out)
      have HT : Hid (textT a.k a.l a.kids a.mn a.mx = []) := textT_ne.2 (by rw [HE.out]; decide)
      go_wp2_with (first
        | (go_at_call 11; (with_reducible refine (checkX a [w1.heap.size] _ HO.out HBD.out HE).mono ?_); rintro e w3 ⟨rfl, hb3⟩; have HX := Lib.hid (HX.out.below hb3); have HO := Lib.hid (HO.out.below hb3); have BB := Lib.hid (below_go BB.out hb3); have LL := Lib.hid (hL0.out.below BB.out); clear hb3; obtain ⟨a0, a1, a2, a3, a4, _⟩ := HX.out)
        | (go_at_call 12; (with_reducible refine (textX a [w1.heap.size] _ HO.out HBD.out HT).mono ?_); rintro e w4 ⟨rfl, hb4⟩; have HX := Lib.hid (HX.out.below hb4); have HO := Lib.hid (HO.out.below hb4); have BB := Lib.hid (below_go BB.out hb4); have LL := Lib.hid (hL0.out.below BB.out); clear hb4; obtain ⟨a0, a1, a2, a3, a4, _⟩ := HX.out)
        | (go_at_call 8; (with_reducible refine (awake_any _ LL.out).mono ?_); rintro e wz ⟨rfl, hbz⟩))
      go_ret
      exact ⟨rfl, below_go BB.out hbz⟩
set_option linter.unusedSimpArgs false in
set_option maxRecDepth 100000 in
set_option maxHeartbeats 16000000 in
theorem grows_01 (N : Nat) (k : Int) (w : World) (hG : ErG w) (hN : N ≤ 30) (hk : Hid (rnd3 k = 0)) (h20 : N < 20) (hS : 60 < twS 6 N) :
    Calls Tryd.prog 6 #[.int .i64 (N : Int), .int .i64 k] w fun e w' => e = .returned (.bool true) ∧ Below w.heap.size w w' := by
  have t1 : decide ((N : Int) < 0) = false := decide_eq_false (by omega)
  have t2 : decide ((N : Int) > 30) = false := decide_eq_false (by omega)
  have t3 : decide ((N : Int) ≥ 20) = false := decide_eq_false (by omega)
  have hL0 := Lib.hid hG
  have HN := Lib.hid hN
  have HEE := Lib.hid (show wantE 6 N = 5 from (if_neg (by omega)).trans (if_pos hS))
  have HSS := Lib.hid hS
  clear hS
  clear hG hN h20
  go_enter Tryd.func6, Tryd.ntmps6
  go_wp2_with (first
    | (go_at_call 14; (with_reducible refine (round_any k _).mono ?_); rintro e w1 ⟨rfl, rfl⟩; rw [hk.out])
    | (go_at_call 16; (with_reducible refine (fwd_any _ _).mono ?_); rintro e w1 ⟨rfl, hb1⟩; have HB1 := Lib.hid (((Below.refl w.heap.size w).alloc (Nat.le_refl _) (.cells #[.int .i64 6, .int .i64 7, .int .i64 8] 3)).trans (hb1.mono (by simp))); clear hb1))
  go_loopw [7] (fun iv wr => ∃ (q : Nat) (a : Nd), iv = .int .i64 q ∧ q ≤ N ∧ Hid (a.fo .nil = tw 6 q) ∧ Hid (Bx wr w1.heap.size (.int .i64 a.k) (.string a.l) (.slice a.A a.kids.len a.c) (.int .i64 a.mn) (.int .i64 a.mx)) ∧ Hid (a.ok wr [w1.heap.size]) ∧ Hid (Below w.heap.size w wr)) (fun iv _ => N - (RowKit.intOf iv).toNat)
  case atStart => exact ⟨0, ⟨2, ⟨#[97]⟩, none, 0, 0, 0, .nil⟩, rfl, Nat.zero_le _, Lib.hid rfl, Lib.hid (Bx.new w1 _ _ _ _ _ _), Lib.hid ⟨Nat.le_refl _, (show (0 : Nat) ≤ 9223372036854775807 by decide), trivial⟩, Lib.hid (HB1.out.alloc HB1.out.size _)⟩
  case round =>
    obtain ⟨q, a, rfl, hq, hf, hx, hok, hbel⟩ := hrel
    obtain ⟨n1, n2, n3, n4⟩ := tw_nd hf.out
    obtain ⟨d1, d2, d3, d4⟩ := tw_is 6 (by omega) q (by have := HN.out; omega)
    have hD2 := Lib.hid (show dp a.kids 1 = (q : Int) + 1 by rw [n1]; exact d1)
    have hd2 : dp a.kids 1 ≤ 40 := by rw [hD2.out]; have := HN.out; omega
    have Hd2 := Lib.hid hd2
    have HBD := Lib.hid n4
    have HP := Lib.hid hx.out.lt
    have HPW := Lib.hid HB1.out.size
    have hS2' := Lib.hid n2
    have hE' := Lib.hid (n3.trans d4)
    have hD1' := Lib.hid (show dp (a.fo .nil) 1 = (q : Int) + 1 + 1 by rw [hf.out]; exact d2)
    have hgt := Lib.hid d3
    obtain ⟨a0, a1, a2, a3, a4, _⟩ := hx.out
    clear n1 n2 n3 n4 d1 d2 d3 d4 hd2
    by_cases hlt : (q : Int) < N
    · have hq0 : (0 : Int) ≤ q := by omega
      have hw := IntWalk.i64_in ((q : Int) + 1 + 1) (by have := HN.out; omega)
      have hw0 := IntWalk.i64_in ((q : Int) + 1) (by have := HN.out; omega)
      obtain ⟨S2, hS2⟩ : ∃ S2, sizeF a.k a.kids a.mn a.mx = S2 := ⟨_, rfl⟩
      obtain ⟨S1, hS1⟩ : ∃ S1, sizeF 6 (a.fo .nil) 0 0 = S1 := ⟨_, rfl⟩
      have tS : decide (S1 ≤ S2) = false := decide_eq_false (by
        have e1 := (tw_nd (tw_up hf.out 0)).2.1
        have e2 : sizeF 6 (a.fo .nil) 0 0 = twS 6 (q + 1) := e1
        have := hgt.out
        rw [hS1] at e2
        have e3 := hS2'.out
        rw [hS2] at e3
        omega)
      have HS1 := Lib.hid hS1
      have HS2 := Lib.hid hS2
      clear hS1 hS2
      have hs1 : (wr.alloc (cells5 a.k a.l a.A a.kids.len a.c a.mn a.mx)).heap.size = wr.heap.size + 1 := by simp
      have HX := Lib.hid (fun (w' : World) (h : Below ((wr.alloc (cells5 a.k a.l a.A a.kids.len a.c a.mn a.mx)).alloc (cells5 6 ⟨#[]⟩ (some ⟨wr.heap.size, 0, none⟩) 1 1 0 0)).heap.size ((wr.alloc (cells5 a.k a.l a.A a.kids.len a.c a.mn a.mx)).alloc (cells5 6 ⟨#[]⟩ (some ⟨wr.heap.size, 0, none⟩) 1 1 0 0)) w') => ((hx.out.al (cells5 a.k a.l a.A a.kids.len a.c a.mn a.mx)).al (cells5 6 ⟨#[]⟩ (some ⟨wr.heap.size, 0, none⟩) 1 1 0 0)).below h)
      have HQ := Lib.hid (fun (w' : World) (h : Below ((wr.alloc (cells5 a.k a.l a.A a.kids.len a.c a.mn a.mx)).alloc (cells5 6 ⟨#[]⟩ (some ⟨wr.heap.size, 0, none⟩) 1 1 0 0)).heap.size ((wr.alloc (cells5 a.k a.l a.A a.kids.len a.c a.mn a.mx)).alloc (cells5 6 ⟨#[]⟩ (some ⟨wr.heap.size, 0, none⟩) 1 1 0 0)) w') => (show Bx w' (wr.heap.size + 1) (.int .i64 6) (.string ⟨#[]⟩) (.slice (some ⟨wr.heap.size, 0, none⟩) 1 1) (.int .i64 0) (.int .i64 0) from hs1 ▸ (Bx.new (wr.alloc (cells5 a.k a.l a.A a.kids.len a.c a.mn a.mx)) (.int .i64 6) (.string ⟨#[]⟩) (.slice (some ⟨wr.heap.size, 0, none⟩) 1 1) (.int .i64 0) (.int .i64 0) 27).below h))
      have HO := Lib.hid (fun (w' : World) (h : Below ((wr.alloc (cells5 a.k a.l a.A a.kids.len a.c a.mn a.mx)).alloc (cells5 6 ⟨#[]⟩ (some ⟨wr.heap.size, 0, none⟩) 1 1 0 0)).heap.size ((wr.alloc (cells5 a.k a.l a.A a.kids.len a.c a.mn a.mx)).alloc (cells5 6 ⟨#[]⟩ (some ⟨wr.heap.size, 0, none⟩) 1 1 0 0)) w') => (solo_ok 6 wr w1.heap.size HP.out hok.out).below h)
      have HA := Lib.hid (fun (w' : World) (h : Below ((wr.alloc (cells5 a.k a.l a.A a.kids.len a.c a.mn a.mx)).alloc (cells5 6 ⟨#[]⟩ (some ⟨wr.heap.size, 0, none⟩) 1 1 0 0)).heap.size ((wr.alloc (cells5 a.k a.l a.A a.kids.len a.c a.mn a.mx)).alloc (cells5 6 ⟨#[]⟩ (some ⟨wr.heap.size, 0, none⟩) 1 1 0 0)) w') => ((hok.out.al (cells5 a.k a.l a.A a.kids.len a.c a.mn a.mx)).al (cells5 6 ⟨#[]⟩ (some ⟨wr.heap.size, 0, none⟩) 1 1 0 0)).below h)
      have HS := Lib.hid (fun (w' : World) (h : Below ((wr.alloc (cells5 a.k a.l a.A a.kids.len a.c a.mn a.mx)).alloc (cells5 6 ⟨#[]⟩ (some ⟨wr.heap.size, 0, none⟩) 1 1 0 0)).heap.size ((wr.alloc (cells5 a.k a.l a.A a.kids.len a.c a.mn a.mx)).alloc (cells5 6 ⟨#[]⟩ (some ⟨wr.heap.size, 0, none⟩) 1 1 0 0)) w') => (⟨(HX.out w' h).c0, (HX.out w' h).c1, (HX.out w' h).c2, (HX.out w' h).c3, (HX.out w' h).c4, (HQ.out w' h).c0, (HQ.out w' h).c1, (HQ.out w' h).c2, (HQ.out w' h).c3, (HQ.out w' h).c4⟩ : w'.cell? ⟨w1.heap.size, 0, none⟩ = some (.int .i64 a.k) ∧ w'.cell? ⟨w1.heap.size, 1, none⟩ = some (.string a.l) ∧ w'.cell? ⟨w1.heap.size, 2, none⟩ = some (.slice a.A a.kids.len a.c) ∧ w'.cell? ⟨w1.heap.size, 3, none⟩ = some (.int .i64 a.mn) ∧ w'.cell? ⟨w1.heap.size, 4, none⟩ = some (.int .i64 a.mx) ∧ w'.cell? ⟨wr.heap.size + 1, 0, none⟩ = some (.int .i64 6) ∧ w'.cell? ⟨wr.heap.size + 1, 1, none⟩ = some (.string ⟨#[]⟩) ∧ w'.cell? ⟨wr.heap.size + 1, 2, none⟩ = some (.slice (some ⟨wr.heap.size, 0, none⟩) 1 1) ∧ w'.cell? ⟨wr.heap.size + 1, 3, none⟩ = some (.int .i64 0) ∧ w'.cell? ⟨wr.heap.size + 1, 4, none⟩ = some (.int .i64 0)))
      have HWW := Lib.hid ((hbel.out.alloc hbel.out.size (cells5 a.k a.l a.A a.kids.len a.c a.mn a.mx)).alloc (by have := hbel.out.size; simp; omega) (cells5 6 ⟨#[]⟩ (some ⟨wr.heap.size, 0, none⟩) 1 1 0 0))
      have HWZ := Lib.hid (show w.heap.size ≤ ((wr.alloc (cells5 a.k a.l a.A a.kids.len a.c a.mn a.mx)).alloc (cells5 6 ⟨#[]⟩ (some ⟨wr.heap.size, 0, none⟩) 1 1 0 0)).heap.size by have := hbel.out.size; simp; omega)
      clear hs1
      go_wp2_with fail
      clear a0 a1 a2 a3 a4
      have F1 := HS.out _ (Below.refl _ _)
      go_region_held3 (fun w' => w'.cell? ⟨w1.heap.size, 0, none⟩ = some (.int .i64 a.k) ∧ w'.cell? ⟨w1.heap.size, 1, none⟩ = some (.string a.l) ∧ w'.cell? ⟨w1.heap.size, 2, none⟩ = some (.slice a.A a.kids.len a.c) ∧ w'.cell? ⟨w1.heap.size, 3, none⟩ = some (.int .i64 a.mn) ∧ w'.cell? ⟨w1.heap.size, 4, none⟩ = some (.int .i64 a.mx) ∧ w'.cell? ⟨wr.heap.size + 1, 0, none⟩ = some (.int .i64 6) ∧ w'.cell? ⟨wr.heap.size + 1, 1, none⟩ = some (.string ⟨#[]⟩) ∧ w'.cell? ⟨wr.heap.size + 1, 2, none⟩ = some (.slice (some ⟨wr.heap.size, 0, none⟩) 1 1) ∧ w'.cell? ⟨wr.heap.size + 1, 3, none⟩ = some (.int .i64 0) ∧ w'.cell? ⟨wr.heap.size + 1, 4, none⟩ = some (.int .i64 0)) (first | exact F1) (first
        | (go_at_call 17; (with_reducible refine (deep_solo 6 wr.heap.size a [w1.heap.size] _ (HO.out _ (Below.refl _ _).drew) hD1').mono ?_); rintro e w2 ⟨rfl, hb2⟩; have HB2 := Lib.hid (below_go (Below.refl _ _).drew hb2); have F1 := HS.out _ HB2.out; clear hb2)
        | (go_at_call 17; (with_reducible refine (deep_is a [w1.heap.size] _ (HA.out _ HB2.out) hD2).mono ?_); rintro e w3 ⟨rfl, hb3⟩; have HB2 := Lib.hid (below_go HB2.out hb3); have F1 := HS.out _ HB2.out; clear hb3)
        | (go_at_call 18; (with_reducible refine (size_solo 6 wr.heap.size a [w1.heap.size] _ (HO.out _ HB2.out) (bd_solo HBD.out _ _) (by rw [hD1'.out]; have := HN.out; omega) HS1).mono ?_); rintro e w4 ⟨rfl, hb4⟩; have HB2 := Lib.hid (below_go HB2.out hb4); have F1 := HS.out _ HB2.out; clear hb4)
        | (go_at_call 18; (with_reducible refine (size_is a [w1.heap.size] _ (HA.out _ HB2.out) HBD.out Hd2.out HS2).mono ?_); rintro e w5 ⟨rfl, hb5⟩; have HB2 := Lib.hid (below_go HB2.out hb5); have F1 := HS.out _ HB2.out; clear hb5))
      all_goals
        have HXX := Lib.hid (HX.out _ HB2.out)
        have HOO := Lib.hid (HO.out _ HB2.out)
        have HB3 := Lib.hid (HWW.out.trans (HB2.out.mono HWZ.out))
        obtain ⟨x0, x1, x2, x3, x4, f0, f1, f2, f3, f4⟩ := HXX.out
        obtain ⟨_, _, _, _, _, y0, y1, y2, y3, y4⟩ := F1
        go_wp2_with fail
        exact ⟨⟨q + 1, solo 6 wr.heap.size a, by go_num, by omega, Lib.hid (tw_up hf.out _), Lib.hid HXX.out.w5, Lib.hid (HOO.out.w5 (by simp)), Lib.hid (((((HB3.out.setCell HPW.out _).setCell HPW.out _).setCell HPW.out _).setCell HPW.out _).setCell HPW.out _)⟩, by simp [RowKit.intOf]; omega⟩
    · have hqN : q = N := by omega
      subst hqN
      have LL := Lib.hid (hL0.out.below hbel.out)
      have BB := hbel
      have HX := hx
      have HO := hok
      have HE := Lib.hid (hE'.out.trans HEE.out)
      have HT : Hid (textT a.k a.l a.kids a.mn a.mx = []) := textT_ne.2 (by rw [HE.out]; decide)
      obtain ⟨S2, hS2⟩ : ∃ S2, sizeF a.k a.kids a.mn a.mx = S2 := ⟨_, rfl⟩
      have tS : decide (S2 > 60) = true := decide_eq_true (by have e1 := hS2'.out; have e2 := HSS.out; rw [hS2] at e1; omega)
      have HS2 := Lib.hid hS2
      clear hS2
      go_wp2_with (first
        | (go_at_call 18; (with_reducible refine (size_is a [w1.heap.size] _ HO.out HBD.out Hd2.out HS2).mono ?_); rintro e w2 ⟨rfl, hb2⟩; have HX := Lib.hid (HX.out.below hb2); have HO := Lib.hid (HO.out.below hb2); have BB := Lib.hid (below_go BB.out hb2); have LL := Lib.hid (hL0.out.below BB.out); clear hb2; obtain ⟨a0, a1, a2, a3, a4, _⟩ := HX.out)
        | (go_at_call 11; (with_reducible refine (checkX a [w1.heap.size] _ HO.out HBD.out HE).mono ?_); rintro e w3 ⟨rfl, hb3⟩; have HX := Lib.hid (HX.out.below hb3); have HO := Lib.hid (HO.out.below hb3); have BB := Lib.hid (below_go BB.out hb3); have LL := Lib.hid (hL0.out.below BB.out); clear hb3; obtain ⟨a0, a1, a2, a3, a4, _⟩ := HX.out)
        | (go_at_call 12; (with_reducible refine (textX a [w1.heap.size] _ HO.out HBD.out HT).mono ?_); rintro e w4 ⟨rfl, hb4⟩; have HX := Lib.hid (HX.out.below hb4); have HO := Lib.hid (HO.out.below hb4); have BB := Lib.hid (below_go BB.out hb4); have LL := Lib.hid (hL0.out.below BB.out); clear hb4; obtain ⟨a0, a1, a2, a3, a4, _⟩ := HX.out)
        | (go_at_call 8; (with_reducible refine (awake_any _ LL.out).mono ?_); rintro e wz ⟨rfl, hbz⟩))
      go_ret
      exact ⟨rfl, below_go BB.out hbz⟩
set_option linter.unusedSimpArgs false in
set_option maxRecDepth 100000 in
set_option maxHeartbeats 16000000 in
theorem grows_02 (N : Nat) (k : Int) (w : World) (hG : ErG w) (hN : N ≤ 30) (hk : Hid (rnd3 k = 0)) (h20 : N < 20) (hS : ¬ 60 < twS 6 N) :
    Calls Tryd.prog 6 #[.int .i64 (N : Int), .int .i64 k] w fun e w' => e = .returned (.bool true) ∧ Below w.heap.size w w' := by
  have t1 : decide ((N : Int) < 0) = false := decide_eq_false (by omega)
  have t2 : decide ((N : Int) > 30) = false := decide_eq_false (by omega)
  have t3 : decide ((N : Int) ≥ 20) = false := decide_eq_false (by omega)
  have hL0 := Lib.hid hG
  have HN := Lib.hid hN
  have HEE := Lib.hid (show wantE 6 N = 0 from (if_neg (by omega)).trans (if_neg hS))
  have HSS := Lib.hid hS
  clear hS
  clear hG hN h20
  go_enter Tryd.func6, Tryd.ntmps6
  go_wp2_with (first
    | (go_at_call 14; (with_reducible refine (round_any k _).mono ?_); rintro e w1 ⟨rfl, rfl⟩; rw [hk.out])
    | (go_at_call 16; (with_reducible refine (fwd_any _ _).mono ?_); rintro e w1 ⟨rfl, hb1⟩; have HB1 := Lib.hid (((Below.refl w.heap.size w).alloc (Nat.le_refl _) (.cells #[.int .i64 6, .int .i64 7, .int .i64 8] 3)).trans (hb1.mono (by simp))); clear hb1))
  go_loopw [7] (fun iv wr => ∃ (q : Nat) (a : Nd), iv = .int .i64 q ∧ q ≤ N ∧ Hid (a.fo .nil = tw 6 q) ∧ Hid (Bx wr w1.heap.size (.int .i64 a.k) (.string a.l) (.slice a.A a.kids.len a.c) (.int .i64 a.mn) (.int .i64 a.mx)) ∧ Hid (a.ok wr [w1.heap.size]) ∧ Hid (Below w.heap.size w wr)) (fun iv _ => N - (RowKit.intOf iv).toNat)
  case atStart => exact ⟨0, ⟨2, ⟨#[97]⟩, none, 0, 0, 0, .nil⟩, rfl, Nat.zero_le _, Lib.hid rfl, Lib.hid (Bx.new w1 _ _ _ _ _ _), Lib.hid ⟨Nat.le_refl _, (show (0 : Nat) ≤ 9223372036854775807 by decide), trivial⟩, Lib.hid (HB1.out.alloc HB1.out.size _)⟩
  case round =>
    obtain ⟨q, a, rfl, hq, hf, hx, hok, hbel⟩ := hrel
    obtain ⟨n1, n2, n3, n4⟩ := tw_nd hf.out
    obtain ⟨d1, d2, d3, d4⟩ := tw_is 6 (by omega) q (by have := HN.out; omega)
    have hD2 := Lib.hid (show dp a.kids 1 = (q : Int) + 1 by rw [n1]; exact d1)
    have hd2 : dp a.kids 1 ≤ 40 := by rw [hD2.out]; have := HN.out; omega
    have Hd2 := Lib.hid hd2
    have HBD := Lib.hid n4
    have HP := Lib.hid hx.out.lt
    have HPW := Lib.hid HB1.out.size
    have hS2' := Lib.hid n2
    have hE' := Lib.hid (n3.trans d4)
    have hD1' := Lib.hid (show dp (a.fo .nil) 1 = (q : Int) + 1 + 1 by rw [hf.out]; exact d2)
    have hgt := Lib.hid d3
    obtain ⟨a0, a1, a2, a3, a4, _⟩ := hx.out
    clear n1 n2 n3 n4 d1 d2 d3 d4 hd2
    by_cases hlt : (q : Int) < N
    · have hq0 : (0 : Int) ≤ q := by omega
      have hw := IntWalk.i64_in ((q : Int) + 1 + 1) (by have := HN.out; omega)
      have hw0 := IntWalk.i64_in ((q : Int) + 1) (by have := HN.out; omega)
      obtain ⟨S2, hS2⟩ : ∃ S2, sizeF a.k a.kids a.mn a.mx = S2 := ⟨_, rfl⟩
      obtain ⟨S1, hS1⟩ : ∃ S1, sizeF 6 (a.fo .nil) 0 0 = S1 := ⟨_, rfl⟩
      have tS : decide (S1 ≤ S2) = false := decide_eq_false (by
        have e1 := (tw_nd (tw_up hf.out 0)).2.1
        have e2 : sizeF 6 (a.fo .nil) 0 0 = twS 6 (q + 1) := e1
        have := hgt.out
        rw [hS1] at e2
        have e3 := hS2'.out
        rw [hS2] at e3
        omega)
      have HS1 := Lib.hid hS1
      have HS2 := Lib.hid hS2
      clear hS1 hS2
      have hs1 : (wr.alloc (cells5 a.k a.l a.A a.kids.len a.c a.mn a.mx)).heap.size = wr.heap.size + 1 := by simp
      have HX := Lib.hid (fun (w' : World) (h : Below ((wr.alloc (cells5 a.k a.l a.A a.kids.len a.c a.mn a.mx)).alloc (cells5 6 ⟨#[]⟩ (some ⟨wr.heap.size, 0, none⟩) 1 1 0 0)).heap.size ((wr.alloc (cells5 a.k a.l a.A a.kids.len a.c a.mn a.mx)).alloc (cells5 6 ⟨#[]⟩ (some ⟨wr.heap.size, 0, none⟩) 1 1 0 0)) w') => ((hx.out.al (cells5 a.k a.l a.A a.kids.len a.c a.mn a.mx)).al (cells5 6 ⟨#[]⟩ (some ⟨wr.heap.size, 0, none⟩) 1 1 0 0)).below h)
      have HQ := Lib.hid (fun (w' : World) (h : Below ((wr.alloc (cells5 a.k a.l a.A a.kids.len a.c a.mn a.mx)).alloc (cells5 6 ⟨#[]⟩ (some ⟨wr.heap.size, 0, none⟩) 1 1 0 0)).heap.size ((wr.alloc (cells5 a.k a.l a.A a.kids.len a.c a.mn a.mx)).alloc (cells5 6 ⟨#[]⟩ (some ⟨wr.heap.size, 0, none⟩) 1 1 0 0)) w') => (show Bx w' (wr.heap.size + 1) (.int .i64 6) (.string ⟨#[]⟩) (.slice (some ⟨wr.heap.size, 0, none⟩) 1 1) (.int .i64 0) (.int .i64 0) from hs1 ▸ (Bx.new (wr.alloc (cells5 a.k a.l a.A a.kids.len a.c a.mn a.mx)) (.int .i64 6) (.string ⟨#[]⟩) (.slice (some ⟨wr.heap.size, 0, none⟩) 1 1) (.int .i64 0) (.int .i64 0) 27).below h))
      have HO := Lib.hid (fun (w' : World) (h : Below ((wr.alloc (cells5 a.k a.l a.A a.kids.len a.c a.mn a.mx)).alloc (cells5 6 ⟨#[]⟩ (some ⟨wr.heap.size, 0, none⟩) 1 1 0 0)).heap.size ((wr.alloc (cells5 a.k a.l a.A a.kids.len a.c a.mn a.mx)).alloc (cells5 6 ⟨#[]⟩ (some ⟨wr.heap.size, 0, none⟩) 1 1 0 0)) w') => (solo_ok 6 wr w1.heap.size HP.out hok.out).below h)
      have HA := Lib.hid (fun (w' : World) (h : Below ((wr.alloc (cells5 a.k a.l a.A a.kids.len a.c a.mn a.mx)).alloc (cells5 6 ⟨#[]⟩ (some ⟨wr.heap.size, 0, none⟩) 1 1 0 0)).heap.size ((wr.alloc (cells5 a.k a.l a.A a.kids.len a.c a.mn a.mx)).alloc (cells5 6 ⟨#[]⟩ (some ⟨wr.heap.size, 0, none⟩) 1 1 0 0)) w') => ((hok.out.al (cells5 a.k a.l a.A a.kids.len a.c a.mn a.mx)).al (cells5 6 ⟨#[]⟩ (some ⟨wr.heap.size, 0, none⟩) 1 1 0 0)).below h)
      have HS := Lib.hid (fun (w' : World) (h : Below ((wr.alloc (cells5 a.k a.l a.A a.kids.len a.c a.mn a.mx)).alloc (cells5 6 ⟨#[]⟩ (some ⟨wr.heap.size, 0, none⟩) 1 1 0 0)).heap.size ((wr.alloc (cells5 a.k a.l a.A a.kids.len a.c a.mn a.mx)).alloc (cells5 6 ⟨#[]⟩ (some ⟨wr.heap.size, 0, none⟩) 1 1 0 0)) w') => (⟨(HX.out w' h).c0, (HX.out w' h).c1, (HX.out w' h).c2, (HX.out w' h).c3, (HX.out w' h).c4, (HQ.out w' h).c0, (HQ.out w' h).c1, (HQ.out w' h).c2, (HQ.out w' h).c3, (HQ.out w' h).c4⟩ : w'.cell? ⟨w1.heap.size, 0, none⟩ = some (.int .i64 a.k) ∧ w'.cell? ⟨w1.heap.size, 1, none⟩ = some (.string a.l) ∧ w'.cell? ⟨w1.heap.size, 2, none⟩ = some (.slice a.A a.kids.len a.c) ∧ w'.cell? ⟨w1.heap.size, 3, none⟩ = some (.int .i64 a.mn) ∧ w'.cell? ⟨w1.heap.size, 4, none⟩ = some (.int .i64 a.mx) ∧ w'.cell? ⟨wr.heap.size + 1, 0, none⟩ = some (.int .i64 6) ∧ w'.cell? ⟨wr.heap.size + 1, 1, none⟩ = some (.string ⟨#[]⟩) ∧ w'.cell? ⟨wr.heap.size + 1, 2, none⟩ = some (.slice (some ⟨wr.heap.size, 0, none⟩) 1 1) ∧ w'.cell? ⟨wr.heap.size + 1, 3, none⟩ = some (.int .i64 0) ∧ w'.cell? ⟨wr.heap.size + 1, 4, none⟩ = some (.int .i64 0)))
      have HWW := Lib.hid ((hbel.out.alloc hbel.out.size (cells5 a.k a.l a.A a.kids.len a.c a.mn a.mx)).alloc (by have := hbel.out.size; simp; omega) (cells5 6 ⟨#[]⟩ (some ⟨wr.heap.size, 0, none⟩) 1 1 0 0))
      have HWZ := Lib.hid (show w.heap.size ≤ ((wr.alloc (cells5 a.k a.l a.A a.kids.len a.c a.mn a.mx)).alloc (cells5 6 ⟨#[]⟩ (some ⟨wr.heap.size, 0, none⟩) 1 1 0 0)).heap.size by have := hbel.out.size; simp; omega)
      clear hs1
      go_wp2_with fail
      clear a0 a1 a2 a3 a4
      have F1 := HS.out _ (Below.refl _ _)
      go_region_held3 (fun w' => w'.cell? ⟨w1.heap.size, 0, none⟩ = some (.int .i64 a.k) ∧ w'.cell? ⟨w1.heap.size, 1, none⟩ = some (.string a.l) ∧ w'.cell? ⟨w1.heap.size, 2, none⟩ = some (.slice a.A a.kids.len a.c) ∧ w'.cell? ⟨w1.heap.size, 3, none⟩ = some (.int .i64 a.mn) ∧ w'.cell? ⟨w1.heap.size, 4, none⟩ = some (.int .i64 a.mx) ∧ w'.cell? ⟨wr.heap.size + 1, 0, none⟩ = some (.int .i64 6) ∧ w'.cell? ⟨wr.heap.size + 1, 1, none⟩ = some (.string ⟨#[]⟩) ∧ w'.cell? ⟨wr.heap.size + 1, 2, none⟩ = some (.slice (some ⟨wr.heap.size, 0, none⟩) 1 1) ∧ w'.cell? ⟨wr.heap.size + 1, 3, none⟩ = some (.int .i64 0) ∧ w'.cell? ⟨wr.heap.size + 1, 4, none⟩ = some (.int .i64 0)) (first | exact F1) (first
        | (go_at_call 17; (with_reducible refine (deep_solo 6 wr.heap.size a [w1.heap.size] _ (HO.out _ (Below.refl _ _).drew) hD1').mono ?_); rintro e w2 ⟨rfl, hb2⟩; have HB2 := Lib.hid (below_go (Below.refl _ _).drew hb2); have F1 := HS.out _ HB2.out; clear hb2)
        | (go_at_call 17; (with_reducible refine (deep_is a [w1.heap.size] _ (HA.out _ HB2.out) hD2).mono ?_); rintro e w3 ⟨rfl, hb3⟩; have HB2 := Lib.hid (below_go HB2.out hb3); have F1 := HS.out _ HB2.out; clear hb3)
        | (go_at_call 18; (with_reducible refine (size_solo 6 wr.heap.size a [w1.heap.size] _ (HO.out _ HB2.out) (bd_solo HBD.out _ _) (by rw [hD1'.out]; have := HN.out; omega) HS1).mono ?_); rintro e w4 ⟨rfl, hb4⟩; have HB2 := Lib.hid (below_go HB2.out hb4); have F1 := HS.out _ HB2.out; clear hb4)
        | (go_at_call 18; (with_reducible refine (size_is a [w1.heap.size] _ (HA.out _ HB2.out) HBD.out Hd2.out HS2).mono ?_); rintro e w5 ⟨rfl, hb5⟩; have HB2 := Lib.hid (below_go HB2.out hb5); have F1 := HS.out _ HB2.out; clear hb5))
      all_goals
        have HXX := Lib.hid (HX.out _ HB2.out)
        have HOO := Lib.hid (HO.out _ HB2.out)
        have HB3 := Lib.hid (HWW.out.trans (HB2.out.mono HWZ.out))
        obtain ⟨x0, x1, x2, x3, x4, f0, f1, f2, f3, f4⟩ := HXX.out
        obtain ⟨_, _, _, _, _, y0, y1, y2, y3, y4⟩ := F1
        go_wp2_with fail
        exact ⟨⟨q + 1, solo 6 wr.heap.size a, by go_num, by omega, Lib.hid (tw_up hf.out _), Lib.hid HXX.out.w5, Lib.hid (HOO.out.w5 (by simp)), Lib.hid (((((HB3.out.setCell HPW.out _).setCell HPW.out _).setCell HPW.out _).setCell HPW.out _).setCell HPW.out _)⟩, by simp [RowKit.intOf]; omega⟩
    · have hqN : q = N := by omega
      subst hqN
      have LL := Lib.hid (hL0.out.below hbel.out)
      have BB := hbel
      have HX := hx
      have HO := hok
      have HE := Lib.hid (hE'.out.trans HEE.out)
      obtain ⟨T, hT⟩ : ∃ T, textT a.k a.l a.kids a.mn a.mx = T := ⟨_, rfl⟩
      have HT := Lib.hid hT
      have hne : T ≠ [] := fun e => textT_ne.1 (hT.trans e) HE.out
      have te : (T == []) = false := by cases T with | nil => exact absurd rfl hne | cons => rfl
      have te2 : T.isEmpty = false := by cases T with | nil => exact absurd rfl hne | cons => rfl
      clear hT hne
      obtain ⟨S2, hS2⟩ : ∃ S2, sizeF a.k a.kids a.mn a.mx = S2 := ⟨_, rfl⟩
      have tS : decide (S2 > 60) = false := decide_eq_false (by have e1 := hS2'.out; have e2 := HSS.out; rw [hS2] at e1; omega)
      have HS2 := Lib.hid hS2
      clear hS2
      go_wp2_with (first
        | (go_at_call 18; (with_reducible refine (size_is a [w1.heap.size] _ HO.out HBD.out Hd2.out HS2).mono ?_); rintro e w2 ⟨rfl, hb2⟩; have HX := Lib.hid (HX.out.below hb2); have HO := Lib.hid (HO.out.below hb2); have BB := Lib.hid (below_go BB.out hb2); have LL := Lib.hid (hL0.out.below BB.out); clear hb2; obtain ⟨a0, a1, a2, a3, a4, _⟩ := HX.out)
        | (go_at_call 11; (with_reducible refine (checkX a [w1.heap.size] _ HO.out HBD.out HE).mono ?_); rintro e w3 ⟨rfl, hb3⟩; have HX := Lib.hid (HX.out.below hb3); have HO := Lib.hid (HO.out.below hb3); have BB := Lib.hid (below_go BB.out hb3); have LL := Lib.hid (hL0.out.below BB.out); clear hb3; obtain ⟨a0, a1, a2, a3, a4, _⟩ := HX.out)
        | (go_at_call 12; (with_reducible refine (textX a [w1.heap.size] _ HO.out HBD.out HT).mono ?_); rintro e w4 ⟨rfl, hb4⟩; have HX := Lib.hid (HX.out.below hb4); have HO := Lib.hid (HO.out.below hb4); have BB := Lib.hid (below_go BB.out hb4); have LL := Lib.hid (hL0.out.below BB.out); clear hb4; obtain ⟨a0, a1, a2, a3, a4, _⟩ := HX.out)
        | (go_at_call 8; (with_reducible refine (awake_any _ LL.out).mono ?_); rintro e wz ⟨rfl, hbz⟩))
      go_ret
      exact ⟨rfl, below_go BB.out hbz⟩
set_option linter.unusedSimpArgs false in
set_option maxRecDepth 100000 in
set_option maxHeartbeats 16000000 in
theorem grows_10 (N : Nat) (k : Int) (w : World) (hG : ErG w) (hN : N ≤ 30) (hk : Hid (rnd3 k = 1)) (h20 : 20 ≤ N) :
    Calls Tryd.prog 6 #[.int .i64 (N : Int), .int .i64 k] w fun e w' => e = .returned (.bool true) ∧ Below w.heap.size w w' := by
  have t1 : decide ((N : Int) < 0) = false := decide_eq_false (by omega)
  have t2 : decide ((N : Int) > 30) = false := decide_eq_false (by omega)
  have t3 : decide ((N : Int) ≥ 20) = true := decide_eq_true (by omega)
  have hL0 := Lib.hid hG
  have HN := Lib.hid hN
  have HEE := Lib.hid (show wantE 7 N = 4 from if_pos h20)
  clear hG hN h20
  go_enter Tryd.func6, Tryd.ntmps6
  go_wp2_with (first
    | (go_at_call 14; (with_reducible refine (round_any k _).mono ?_); rintro e w1 ⟨rfl, rfl⟩; rw [hk.out])
    | (go_at_call 16; (with_reducible refine (fwd_any _ _).mono ?_); rintro e w1 ⟨rfl, hb1⟩; have HB1 := Lib.hid (((Below.refl w.heap.size w).alloc (Nat.le_refl _) (.cells #[.int .i64 6, .int .i64 7, .int .i64 8] 3)).trans (hb1.mono (by simp))); clear hb1))
  go_loopw [7] (fun iv wr => ∃ (q : Nat) (a : Nd), iv = .int .i64 q ∧ q ≤ N ∧ Hid (a.fo .nil = tw 7 q) ∧ Hid (Bx wr w1.heap.size (.int .i64 a.k) (.string a.l) (.slice a.A a.kids.len a.c) (.int .i64 a.mn) (.int .i64 a.mx)) ∧ Hid (a.ok wr [w1.heap.size]) ∧ Hid (Below w.heap.size w wr)) (fun iv _ => N - (RowKit.intOf iv).toNat)
  case atStart => exact ⟨0, ⟨2, ⟨#[97]⟩, none, 0, 0, 0, .nil⟩, rfl, Nat.zero_le _, Lib.hid rfl, Lib.hid (Bx.new w1 _ _ _ _ _ _), Lib.hid ⟨Nat.le_refl _, (show (0 : Nat) ≤ 9223372036854775807 by decide), trivial⟩, Lib.hid (HB1.out.alloc HB1.out.size _)⟩
  case round =>
    obtain ⟨q, a, rfl, hq, hf, hx, hok, hbel⟩ := hrel
    obtain ⟨n1, n2, n3, n4⟩ := tw_nd hf.out
    obtain ⟨d1, d2, d3, d4⟩ := tw_is 7 (by omega) q (by have := HN.out; omega)
    have hD2 := Lib.hid (show dp a.kids 1 = (q : Int) + 1 by rw [n1]; exact d1)
    have hd2 : dp a.kids 1 ≤ 40 := by rw [hD2.out]; have := HN.out; omega
    have Hd2 := Lib.hid hd2
    have HBD := Lib.hid n4
    have HP := Lib.hid hx.out.lt
    have HPW := Lib.hid HB1.out.size
    have hS2' := Lib.hid n2
    have hE' := Lib.hid (n3.trans d4)
    have hD1' := Lib.hid (show dp (a.fo .nil) 1 = (q : Int) + 1 + 1 by rw [hf.out]; exact d2)
    have hgt := Lib.hid d3
    obtain ⟨a0, a1, a2, a3, a4, _⟩ := hx.out
    clear n1 n2 n3 n4 d1 d2 d3 d4 hd2
    by_cases hlt : (q : Int) < N
    · have hq0 : (0 : Int) ≤ q := by omega
      have hw := IntWalk.i64_in ((q : Int) + 1 + 1) (by have := HN.out; omega)
      have hw0 := IntWalk.i64_in ((q : Int) + 1) (by have := HN.out; omega)
      obtain ⟨S2, hS2⟩ : ∃ S2, sizeF a.k a.kids a.mn a.mx = S2 := ⟨_, rfl⟩
      obtain ⟨S1, hS1⟩ : ∃ S1, sizeF 7 (a.fo .nil) 0 0 = S1 := ⟨_, rfl⟩
      have tS : decide (S1 ≤ S2) = false := decide_eq_false (by
        have e1 := (tw_nd (tw_up hf.out 0)).2.1
        have e2 : sizeF 7 (a.fo .nil) 0 0 = twS 7 (q + 1) := e1
        have := hgt.out
        rw [hS1] at e2
        have e3 := hS2'.out
        rw [hS2] at e3
        omega)
      have HS1 := Lib.hid hS1
      have HS2 := Lib.hid hS2
      clear hS1 hS2
      have hs1 : (wr.alloc (cells5 a.k a.l a.A a.kids.len a.c a.mn a.mx)).heap.size = wr.heap.size + 1 := by simp
      have HX := Lib.hid (fun (w' : World) (h : Below ((wr.alloc (cells5 a.k a.l a.A a.kids.len a.c a.mn a.mx)).alloc (cells5 7 ⟨#[]⟩ (some ⟨wr.heap.size, 0, none⟩) 1 1 0 0)).heap.size ((wr.alloc (cells5 a.k a.l a.A a.kids.len a.c a.mn a.mx)).alloc (cells5 7 ⟨#[]⟩ (some ⟨wr.heap.size, 0, none⟩) 1 1 0 0)) w') => ((hx.out.al (cells5 a.k a.l a.A a.kids.len a.c a.mn a.mx)).al (cells5 7 ⟨#[]⟩ (some ⟨wr.heap.size, 0, none⟩) 1 1 0 0)).below h)
      have HQ := Lib.hid (fun (w' : World) (h : Below ((wr.alloc (cells5 a.k a.l a.A a.kids.len a.c a.mn a.mx)).alloc (cells5 7 ⟨#[]⟩ (some ⟨wr.heap.size, 0, none⟩) 1 1 0 0)).heap.size ((wr.alloc (cells5 a.k a.l a.A a.kids.len a.c a.mn a.mx)).alloc (cells5 7 ⟨#[]⟩ (some ⟨wr.heap.size, 0, none⟩) 1 1 0 0)) w') => (show Bx w' (wr.heap.size + 1) (.int .i64 7) (.string ⟨#[]⟩) (.slice (some ⟨wr.heap.size, 0, none⟩) 1 1) (.int .i64 0) (.int .i64 0) from hs1 ▸ (Bx.new (wr.alloc (cells5 a.k a.l a.A a.kids.len a.c a.mn a.mx)) (.int .i64 7) (.string ⟨#[]⟩) (.slice (some ⟨wr.heap.size, 0, none⟩) 1 1) (.int .i64 0) (.int .i64 0) 27).below h))
      have HO := Lib.hid (fun (w' : World) (h : Below ((wr.alloc (cells5 a.k a.l a.A a.kids.len a.c a.mn a.mx)).alloc (cells5 7 ⟨#[]⟩ (some ⟨wr.heap.size, 0, none⟩) 1 1 0 0)).heap.size ((wr.alloc (cells5 a.k a.l a.A a.kids.len a.c a.mn a.mx)).alloc (cells5 7 ⟨#[]⟩ (some ⟨wr.heap.size, 0, none⟩) 1 1 0 0)) w') => (solo_ok 7 wr w1.heap.size HP.out hok.out).below h)
      have HA := Lib.hid (fun (w' : World) (h : Below ((wr.alloc (cells5 a.k a.l a.A a.kids.len a.c a.mn a.mx)).alloc (cells5 7 ⟨#[]⟩ (some ⟨wr.heap.size, 0, none⟩) 1 1 0 0)).heap.size ((wr.alloc (cells5 a.k a.l a.A a.kids.len a.c a.mn a.mx)).alloc (cells5 7 ⟨#[]⟩ (some ⟨wr.heap.size, 0, none⟩) 1 1 0 0)) w') => ((hok.out.al (cells5 a.k a.l a.A a.kids.len a.c a.mn a.mx)).al (cells5 7 ⟨#[]⟩ (some ⟨wr.heap.size, 0, none⟩) 1 1 0 0)).below h)
      have HS := Lib.hid (fun (w' : World) (h : Below ((wr.alloc (cells5 a.k a.l a.A a.kids.len a.c a.mn a.mx)).alloc (cells5 7 ⟨#[]⟩ (some ⟨wr.heap.size, 0, none⟩) 1 1 0 0)).heap.size ((wr.alloc (cells5 a.k a.l a.A a.kids.len a.c a.mn a.mx)).alloc (cells5 7 ⟨#[]⟩ (some ⟨wr.heap.size, 0, none⟩) 1 1 0 0)) w') => (⟨(HX.out w' h).c0, (HX.out w' h).c1, (HX.out w' h).c2, (HX.out w' h).c3, (HX.out w' h).c4, (HQ.out w' h).c0, (HQ.out w' h).c1, (HQ.out w' h).c2, (HQ.out w' h).c3, (HQ.out w' h).c4⟩ : w'.cell? ⟨w1.heap.size, 0, none⟩ = some (.int .i64 a.k) ∧ w'.cell? ⟨w1.heap.size, 1, none⟩ = some (.string a.l) ∧ w'.cell? ⟨w1.heap.size, 2, none⟩ = some (.slice a.A a.kids.len a.c) ∧ w'.cell? ⟨w1.heap.size, 3, none⟩ = some (.int .i64 a.mn) ∧ w'.cell? ⟨w1.heap.size, 4, none⟩ = some (.int .i64 a.mx) ∧ w'.cell? ⟨wr.heap.size + 1, 0, none⟩ = some (.int .i64 7) ∧ w'.cell? ⟨wr.heap.size + 1, 1, none⟩ = some (.string ⟨#[]⟩) ∧ w'.cell? ⟨wr.heap.size + 1, 2, none⟩ = some (.slice (some ⟨wr.heap.size, 0, none⟩) 1 1) ∧ w'.cell? ⟨wr.heap.size + 1, 3, none⟩ = some (.int .i64 0) ∧ w'.cell? ⟨wr.heap.size + 1, 4, none⟩ = some (.int .i64 0)))
      have HWW := Lib.hid ((hbel.out.alloc hbel.out.size (cells5 a.k a.l a.A a.kids.len a.c a.mn a.mx)).alloc (by have := hbel.out.size; simp; omega) (cells5 7 ⟨#[]⟩ (some ⟨wr.heap.size, 0, none⟩) 1 1 0 0))
      have HWZ := Lib.hid (show w.heap.size ≤ ((wr.alloc (cells5 a.k a.l a.A a.kids.len a.c a.mn a.mx)).alloc (cells5 7 ⟨#[]⟩ (some ⟨wr.heap.size, 0, none⟩) 1 1 0 0)).heap.size by have := hbel.out.size; simp; omega)
      clear hs1
      go_wp2_with fail
      clear a0 a1 a2 a3 a4
      have F1 := HS.out _ (Below.refl _ _)
      go_region_held3 (fun w' => w'.cell? ⟨w1.heap.size, 0, none⟩ = some (.int .i64 a.k) ∧ w'.cell? ⟨w1.heap.size, 1, none⟩ = some (.string a.l) ∧ w'.cell? ⟨w1.heap.size, 2, none⟩ = some (.slice a.A a.kids.len a.c) ∧ w'.cell? ⟨w1.heap.size, 3, none⟩ = some (.int .i64 a.mn) ∧ w'.cell? ⟨w1.heap.size, 4, none⟩ = some (.int .i64 a.mx) ∧ w'.cell? ⟨wr.heap.size + 1, 0, none⟩ = some (.int .i64 7) ∧ w'.cell? ⟨wr.heap.size + 1, 1, none⟩ = some (.string ⟨#[]⟩) ∧ w'.cell? ⟨wr.heap.size + 1, 2, none⟩ = some (.slice (some ⟨wr.heap.size, 0, none⟩) 1 1) ∧ w'.cell? ⟨wr.heap.size + 1, 3, none⟩ = some (.int .i64 0) ∧ w'.cell? ⟨wr.heap.size + 1, 4, none⟩ = some (.int .i64 0)) (first | exact F1) (first
        | (go_at_call 17; (with_reducible refine (deep_solo 7 wr.heap.size a [w1.heap.size] _ (HO.out _ (Below.refl _ _).drew) hD1').mono ?_); rintro e w2 ⟨rfl, hb2⟩; have HB2 := Lib.hid (below_go (Below.refl _ _).drew hb2); have F1 := HS.out _ HB2.out; clear hb2)
        | (go_at_call 17; (with_reducible refine (deep_is a [w1.heap.size] _ (HA.out _ HB2.out) hD2).mono ?_); rintro e w3 ⟨rfl, hb3⟩; have HB2 := Lib.hid (below_go HB2.out hb3); have F1 := HS.out _ HB2.out; clear hb3)
        | (go_at_call 18; (with_reducible refine (size_solo 7 wr.heap.size a [w1.heap.size] _ (HO.out _ HB2.out) (bd_solo HBD.out _ _) (by rw [hD1'.out]; have := HN.out; omega) HS1).mono ?_); rintro e w4 ⟨rfl, hb4⟩; have HB2 := Lib.hid (below_go HB2.out hb4); have F1 := HS.out _ HB2.out; clear hb4)
        | (go_at_call 18; (with_reducible refine (size_is a [w1.heap.size] _ (HA.out _ HB2.out) HBD.out Hd2.out HS2).mono ?_); rintro e w5 ⟨rfl, hb5⟩; have HB2 := Lib.hid (below_go HB2.out hb5); have F1 := HS.out _ HB2.out; clear hb5))
      all_goals
        have HXX := Lib.hid (HX.out _ HB2.out)
        have HOO := Lib.hid (HO.out _ HB2.out)
        have HB3 := Lib.hid (HWW.out.trans (HB2.out.mono HWZ.out))
        obtain ⟨x0, x1, x2, x3, x4, f0, f1, f2, f3, f4⟩ := HXX.out
        obtain ⟨_, _, _, _, _, y0, y1, y2, y3, y4⟩ := F1
        go_wp2_with fail
        exact ⟨⟨q + 1, solo 7 wr.heap.size a, by go_num, by omega, Lib.hid (tw_up hf.out _), Lib.hid HXX.out.w5, Lib.hid (HOO.out.w5 (by simp)), Lib.hid (((((HB3.out.setCell HPW.out _).setCell HPW.out _).setCell HPW.out _).setCell HPW.out _).setCell HPW.out _)⟩, by simp [RowKit.intOf]; omega⟩
    · have hqN : q = N := by omega
      subst hqN
      have LL := Lib.hid (hL0.out.below hbel.out)
      have BB := hbel
      have HX := hx
      have HO := hok
      have HE := Lib.hid (hE'.out.trans HEE.out)
      have HT : Hid (textT a.k a.l a.kids a.mn a.mx = []) := textT_ne.2 (by rw [HE.out]; decide)
      go_wp2_with (first
        | (go_at_call 11; (with_reducible refine (checkX a [w1.heap.size] _ HO.out HBD.out HE).mono ?_); rintro e w3 ⟨rfl, hb3⟩; have HX := Lib.hid (HX.out.below hb3); have HO := Lib.hid (HO.out.below hb3); have BB := Lib.hid (below_go BB.out hb3); have LL := Lib.hid (hL0.out.below BB.out); clear hb3; obtain ⟨a0, a1, a2, a3, a4, _⟩ := HX.out)
        | (go_at_call 12; (with_reducible refine (textX a [w1.heap.size] _ HO.out HBD.out HT).mono ?_); rintro e w4 ⟨rfl, hb4⟩; have HX := Lib.hid (HX.out.below hb4); have HO := Lib.hid (HO.out.below hb4); have BB := Lib.hid (below_go BB.out hb4); have LL := Lib.hid (hL0.out.below BB.out); clear hb4; obtain ⟨a0, a1, a2, a3, a4, _⟩ := HX.out)
        | (go_at_call 8; (with_reducible refine (awake_any _ LL.out).mono ?_); rintro e wz ⟨rfl, hbz⟩))
      go_ret
      exact ⟨rfl, below_go BB.out hbz⟩
set_option linter.unusedSimpArgs false in
set_option maxRecDepth 100000 in
set_option maxHeartbeats 16000000 in
theorem grows_11 (N : Nat) (k : Int) (w : World) (hG : ErG w) (hN : N ≤ 30) (hk : Hid (rnd3 k = 1)) (h20 : N < 20) (hS : 60 < twS 7 N) :
    Calls Tryd.prog 6 #[.int .i64 (N : Int), .int .i64 k] w fun e w' => e = .returned (.bool true) ∧ Below w.heap.size w w' := by
  have t1 : decide ((N : Int) < 0) = false := decide_eq_false (by omega)
  have t2 : decide ((N : Int) > 30) = false := decide_eq_false (by omega)
  have t3 : decide ((N : Int) ≥ 20) = false := decide_eq_false (by omega)
  have hL0 := Lib.hid hG
  have HN := Lib.hid hN
  have HEE := Lib.hid (show wantE 7 N = 5 from (if_neg (by omega)).trans (if_pos hS))
  have HSS := Lib.hid hS
  clear hS
  clear hG hN h20
  go_enter Tryd.func6, Tryd.ntmps6
  go_wp2_with (first
    | (go_at_call 14; (with_reducible refine (round_any k _).mono ?_); rintro e w1 ⟨rfl, rfl⟩; rw [hk.out])
    | (go_at_call 16; (with_reducible refine (fwd_any _ _).mono ?_); rintro e w1 ⟨rfl, hb1⟩; have HB1 := Lib.hid (((Below.refl w.heap.size w).alloc (Nat.le_refl _) (.cells #[.int .i64 6, .int .i64 7, .int .i64 8] 3)).trans (hb1.mono (by simp))); clear hb1))
  go_loopw [7] (fun iv wr => ∃ (q : Nat) (a : Nd), iv = .int .i64 q ∧ q ≤ N ∧ Hid (a.fo .nil = tw 7 q) ∧ Hid (Bx wr w1.heap.size (.int .i64 a.k) (.string a.l) (.slice a.A a.kids.len a.c) (.int .i64 a.mn) (.int .i64 a.mx)) ∧ Hid (a.ok wr [w1.heap.size]) ∧ Hid (Below w.heap.size w wr)) (fun iv _ => N - (RowKit.intOf iv).toNat)
  case atStart => exact ⟨0, ⟨2, ⟨#[97]⟩, none, 0, 0, 0, .nil⟩, rfl, Nat.zero_le _, Lib.hid rfl, Lib.hid (Bx.new w1 _ _ _ _ _ _), Lib.hid ⟨Nat.le_refl _, (show (0 : Nat) ≤ 9223372036854775807 by decide), trivial⟩, Lib.hid (HB1.out.alloc HB1.out.size _)⟩
  case round =>
    obtain ⟨q, a, rfl, hq, hf, hx, hok, hbel⟩ := hrel
    obtain ⟨n1, n2, n3, n4⟩ := tw_nd hf.out
    obtain ⟨d1, d2, d3, d4⟩ := tw_is 7 (by omega) q (by have := HN.out; omega)
    have hD2 := Lib.hid (show dp a.kids 1 = (q : Int) + 1 by rw [n1]; exact d1)
    have hd2 : dp a.kids 1 ≤ 40 := by rw [hD2.out]; have := HN.out; omega
    have Hd2 := Lib.hid hd2
    have HBD := Lib.hid n4
    have HP := Lib.hid hx.out.lt
    have HPW := Lib.hid HB1.out.size
    have hS2' := Lib.hid n2
    have hE' := Lib.hid (n3.trans d4)
    have hD1' := Lib.hid (show dp (a.fo .nil) 1 = (q : Int) + 1 + 1 by rw [hf.out]; exact d2)
    have hgt := Lib.hid d3
    obtain ⟨a0, a1, a2, a3, a4, _⟩ := hx.out
    clear n1 n2 n3 n4 d1 d2 d3 d4 hd2
    by_cases hlt : (q : Int) < N
    · have hq0 : (0 : Int) ≤ q := by omega
      have hw := IntWalk.i64_in ((q : Int) + 1 + 1) (by have := HN.out; omega)
      have hw0 := IntWalk.i64_in ((q : Int) + 1) (by have := HN.out; omega)
      obtain ⟨S2, hS2⟩ : ∃ S2, sizeF a.k a.kids a.mn a.mx = S2 := ⟨_, rfl⟩
      obtain ⟨S1, hS1⟩ : ∃ S1, sizeF 7 (a.fo .nil) 0 0 = S1 := ⟨_, rfl⟩
      have tS : decide (S1 ≤ S2) = false := decide_eq_false (by
        have e1 := (tw_nd (tw_up hf.out 0)).2.1
        have e2 : sizeF 7 (a.fo .nil) 0 0 = twS 7 (q + 1) := e1
        have := hgt.out
        rw [hS1] at e2
        have e3 := hS2'.out
        rw [hS2] at e3
        omega)
      have HS1 := Lib.hid hS1
      have HS2 := Lib.hid hS2
      clear hS1 hS2
      have hs1 : (wr.alloc (cells5 a.k a.l a.A a.kids.len a.c a.mn a.mx)).heap.size = wr.heap.size + 1 := by simp
      have HX := Lib.hid (fun (w' : World) (h : Below ((wr.alloc (cells5 a.k a.l a.A a.kids.len a.c a.mn a.mx)).alloc (cells5 7 ⟨#[]⟩ (some ⟨wr.heap.size, 0, none⟩) 1 1 0 0)).heap.size ((wr.alloc (cells5 a.k a.l a.A a.kids.len a.c a.mn a.mx)).alloc (cells5 7 ⟨#[]⟩ (some ⟨wr.heap.size, 0, none⟩) 1 1 0 0)) w') => ((hx.out.al (cells5 a.k a.l a.A a.kids.len a.c a.mn a.mx)).al (cells5 7 ⟨#[]⟩ (some ⟨wr.heap.size, 0, none⟩) 1 1 0 0)).below h)
      have HQ := Lib.hid (fun (w' : World) (h : Below ((wr.alloc (cells5 a.k a.l a.A a.kids.len a.c a.mn a.mx)).alloc (cells5 7 ⟨#[]⟩ (some ⟨wr.heap.size, 0, none⟩) 1 1 0 0)).heap.size ((wr.alloc (cells5 a.k a.l a.A a.kids.len a.c a.mn a.mx)).alloc (cells5 7 ⟨#[]⟩ (some ⟨wr.heap.size, 0, none⟩) 1 1 0 0)) w') => (show Bx w' (wr.heap.size + 1) (.int .i64 7) (.string ⟨#[]⟩) (.slice (some ⟨wr.heap.size, 0, none⟩) 1 1) (.int .i64 0) (.int .i64 0) from hs1 ▸ (Bx.new (wr.alloc (cells5 a.k a.l a.A a.kids.len a.c a.mn a.mx)) (.int .i64 7) (.string ⟨#[]⟩) (.slice (some ⟨wr.heap.size, 0, none⟩) 1 1) (.int .i64 0) (.int .i64 0) 27).below h))
      have HO := Lib.hid (fun (w' : World) (h : Below ((wr.alloc (cells5 a.k a.l a.A a.kids.len a.c a.mn a.mx)).alloc (cells5 7 ⟨#[]⟩ (some ⟨wr.heap.size, 0, none⟩) 1 1 0 0)).heap.size ((wr.alloc (cells5 a.k a.l a.A a.kids.len a.c a.mn a.mx)).alloc (cells5 7 ⟨#[]⟩ (some ⟨wr.heap.size, 0, none⟩) 1 1 0 0)) w') => (solo_ok 7 wr w1.heap.size HP.out hok.out).below h)
      have HA := Lib.hid (fun (w' : World) (h : Below ((wr.alloc (cells5 a.k a.l a.A a.kids.len a.c a.mn a.mx)).alloc (cells5 7 ⟨#[]⟩ (some ⟨wr.heap.size, 0, none⟩) 1 1 0 0)).heap.size ((wr.alloc (cells5 a.k a.l a.A a.kids.len a.c a.mn a.mx)).alloc (cells5 7 ⟨#[]⟩ (some ⟨wr.heap.size, 0, none⟩) 1 1 0 0)) w') => ((hok.out.al (cells5 a.k a.l a.A a.kids.len a.c a.mn a.mx)).al (cells5 7 ⟨#[]⟩ (some ⟨wr.heap.size, 0, none⟩) 1 1 0 0)).below h)
      have HS := Lib.hid (fun (w' : World) (h : Below ((wr.alloc (cells5 a.k a.l a.A a.kids.len a.c a.mn a.mx)).alloc (cells5 7 ⟨#[]⟩ (some ⟨wr.heap.size, 0, none⟩) 1 1 0 0)).heap.size ((wr.alloc (cells5 a.k a.l a.A a.kids.len a.c a.mn a.mx)).alloc (cells5 7 ⟨#[]⟩ (some ⟨wr.heap.size, 0, none⟩) 1 1 0 0)) w') => (⟨(HX.out w' h).c0, (HX.out w' h).c1, (HX.out w' h).c2, (HX.out w' h).c3, (HX.out w' h).c4, (HQ.out w' h).c0, (HQ.out w' h).c1, (HQ.out w' h).c2, (HQ.out w' h).c3, (HQ.out w' h).c4⟩ : w'.cell? ⟨w1.heap.size, 0, none⟩ = some (.int .i64 a.k) ∧ w'.cell? ⟨w1.heap.size, 1, none⟩ = some (.string a.l) ∧ w'.cell? ⟨w1.heap.size, 2, none⟩ = some (.slice a.A a.kids.len a.c) ∧ w'.cell? ⟨w1.heap.size, 3, none⟩ = some (.int .i64 a.mn) ∧ w'.cell? ⟨w1.heap.size, 4, none⟩ = some (.int .i64 a.mx) ∧ w'.cell? ⟨wr.heap.size + 1, 0, none⟩ = some (.int .i64 7) ∧ w'.cell? ⟨wr.heap.size + 1, 1, none⟩ = some (.string ⟨#[]⟩) ∧ w'.cell? ⟨wr.heap.size + 1, 2, none⟩ = some (.slice (some ⟨wr.heap.size, 0, none⟩) 1 1) ∧ w'.cell? ⟨wr.heap.size + 1, 3, none⟩ = some (.int .i64 0) ∧ w'.cell? ⟨wr.heap.size + 1, 4, none⟩ = some (.int .i64 0)))
      have HWW := Lib.hid ((hbel.out.alloc hbel.out.size (cells5 a.k a.l a.A a.kids.len a.c a.mn a.mx)).alloc (by have := hbel.out.size; simp; omega) (cells5 7 ⟨#[]⟩ (some ⟨wr.heap.size, 0, none⟩) 1 1 0 0))
      have HWZ := Lib.hid (show w.heap.size ≤ ((wr.alloc (cells5 a.k a.l a.A a.kids.len a.c a.mn a.mx)).alloc (cells5 7 ⟨#[]⟩ (some ⟨wr.heap.size, 0, none⟩) 1 1 0 0)).heap.size by have := hbel.out.size; simp; omega)
      clear hs1
      go_wp2_with fail
      clear a0 a1 a2 a3 a4
      have F1 := HS.out _ (Below.refl _ _)
      go_region_held3 (fun w' => w'.cell? ⟨w1.heap.size, 0, none⟩ = some (.int .i64 a.k) ∧ w'.cell? ⟨w1.heap.size, 1, none⟩ = some (.string a.l) ∧ w'.cell? ⟨w1.heap.size, 2, none⟩ = some (.slice a.A a.kids.len a.c) ∧ w'.cell? ⟨w1.heap.size, 3, none⟩ = some (.int .i64 a.mn) ∧ w'.cell? ⟨w1.heap.size, 4, none⟩ = some (.int .i64 a.mx) ∧ w'.cell? ⟨wr.heap.size + 1, 0, none⟩ = some (.int .i64 7) ∧ w'.cell? ⟨wr.heap.size + 1, 1, none⟩ = some (.string ⟨#[]⟩) ∧ w'.cell? ⟨wr.heap.size + 1, 2, none⟩ = some (.slice (some ⟨wr.heap.size, 0, none⟩) 1 1) ∧ w'.cell? ⟨wr.heap.size + 1, 3, none⟩ = some (.int .i64 0) ∧ w'.cell? ⟨wr.heap.size + 1, 4, none⟩ = some (.int .i64 0)) (first | exact F1) (first
        | (go_at_call 17; (with_reducible refine (deep_solo 7 wr.heap.size a [w1.heap.size] _ (HO.out _ (Below.refl _ _).drew) hD1').mono ?_); rintro e w2 ⟨rfl, hb2⟩; have HB2 := Lib.hid (below_go (Below.refl _ _).drew hb2); have F1 := HS.out _ HB2.out; clear hb2)
        | (go_at_call 17; (with_reducible refine (deep_is a [w1.heap.size] _ (HA.out _ HB2.out) hD2).mono ?_); rintro e w3 ⟨rfl, hb3⟩; have HB2 := Lib.hid (below_go HB2.out hb3); have F1 := HS.out _ HB2.out; clear hb3)
        | (go_at_call 18; (with_reducible refine (size_solo 7 wr.heap.size a [w1.heap.size] _ (HO.out _ HB2.out) (bd_solo HBD.out _ _) (by rw [hD1'.out]; have := HN.out; omega) HS1).mono ?_); rintro e w4 ⟨rfl, hb4⟩; have HB2 := Lib.hid (below_go HB2.out hb4); have F1 := HS.out _ HB2.out; clear hb4)
        | (go_at_call 18; (with_reducible refine (size_is a [w1.heap.size] _ (HA.out _ HB2.out) HBD.out Hd2.out HS2).mono ?_); rintro e w5 ⟨rfl, hb5⟩; have HB2 := Lib.hid (below_go HB2.out hb5); have F1 := HS.out _ HB2.out; clear hb5))
      all_goals
        have HXX := Lib.hid (HX.out _ HB2.out)
        have HOO := Lib.hid (HO.out _ HB2.out)
        have HB3 := Lib.hid (HWW.out.trans (HB2.out.mono HWZ.out))
        obtain ⟨x0, x1, x2, x3, x4, f0, f1, f2, f3, f4⟩ := HXX.out
        obtain ⟨_, _, _, _, _, y0, y1, y2, y3, y4⟩ := F1
        go_wp2_with fail
        exact ⟨⟨q + 1, solo 7 wr.heap.size a, by go_num, by omega, Lib.hid (tw_up hf.out _), Lib.hid HXX.out.w5, Lib.hid (HOO.out.w5 (by simp)), Lib.hid (((((HB3.out.setCell HPW.out _).setCell HPW.out _).setCell HPW.out _).setCell HPW.out _).setCell HPW.out _)⟩, by simp [RowKit.intOf]; omega⟩
    · have hqN : q = N := by omega
      subst hqN
      have LL := Lib.hid (hL0.out.below hbel.out)
      have BB := hbel
      have HX := hx
      have HO := hok
      have HE := Lib.hid (hE'.out.trans HEE.out)
      have HT : Hid (textT a.k a.l a.kids a.mn a.mx = []) := textT_ne.2 (by rw [HE.out]; decide)
      obtain ⟨S2, hS2⟩ : ∃ S2, sizeF a.k a.kids a.mn a.mx = S2 := ⟨_, rfl⟩
      have tS : decide (S2 > 60) = true := decide_eq_true (by have e1 := hS2'.out; have e2 := HSS.out; rw [hS2] at e1; omega)
      have HS2 := Lib.hid hS2
      clear hS2
      go_wp2_with (first
        | (go_at_call 18; (with_reducible refine (size_is a [w1.heap.size] _ HO.out HBD.out Hd2.out HS2).mono ?_); rintro e w2 ⟨rfl, hb2⟩; have HX := Lib.hid (HX.out.below hb2); have HO := Lib.hid (HO.out.below hb2); have BB := Lib.hid (below_go BB.out hb2); have LL := Lib.hid (hL0.out.below BB.out); clear hb2; obtain ⟨a0, a1, a2, a3, a4, _⟩ := HX.out)
        | (go_at_call 11; (with_reducible refine (checkX a [w1.heap.size] _ HO.out HBD.out HE).mono ?_); rintro e w3 ⟨rfl, hb3⟩; have HX := Lib.hid (HX.out.below hb3); have HO := Lib.hid (HO.out.below hb3); have BB := Lib.hid (below_go BB.out hb3); have LL := Lib.hid (hL0.out.below BB.out); clear hb3; obtain ⟨a0, a1, a2, a3, a4, _⟩ := HX.out)
        | (go_at_call 12; (with_reducible refine (textX a [w1.heap.size] _ HO.out HBD.out HT).mono ?_); rintro e w4 ⟨rfl, hb4⟩; have HX := Lib.hid (HX.out.below hb4); have HO := Lib.hid (HO.out.below hb4); have BB := Lib.hid (below_go BB.out hb4); have LL := Lib.hid (hL0.out.below BB.out); clear hb4; obtain ⟨a0, a1, a2, a3, a4, _⟩ := HX.out)
        | (go_at_call 8; (with_reducible refine (awake_any _ LL.out).mono ?_); rintro e wz ⟨rfl, hbz⟩))
      go_ret
      exact ⟨rfl, below_go BB.out hbz⟩
set_option linter.unusedSimpArgs false in
set_option maxRecDepth 100000 in
set_option maxHeartbeats 16000000 in
theorem grows_12 (N : Nat) (k : Int) (w : World) (hG : ErG w) (hN : N ≤ 30) (hk : Hid (rnd3 k = 1)) (h20 : N < 20) (hS : ¬ 60 < twS 7 N) :
    Calls Tryd.prog 6 #[.int .i64 (N : Int), .int .i64 k] w fun e w' => e = .returned (.bool true) ∧ Below w.heap.size w w' := by
  have t1 : decide ((N : Int) < 0) = false := decide_eq_false (by omega)
  have t2 : decide ((N : Int) > 30) = false := decide_eq_false (by omega)
  have t3 : decide ((N : Int) ≥ 20) = false := decide_eq_false (by omega)
  have hL0 := Lib.hid hG
  have HN := Lib.hid hN
  have HEE := Lib.hid (show wantE 7 N = 0 from (if_neg (by omega)).trans (if_neg hS))
  have HSS := Lib.hid hS
  clear hS
  clear hG hN h20
  go_enter Tryd.func6, Tryd.ntmps6
  go_wp2_with (first
    | (go_at_call 14; (with_reducible refine (round_any k _).mono ?_); rintro e w1 ⟨rfl, rfl⟩; rw [hk.out])
    | (go_at_call 16; (with_reducible refine (fwd_any _ _).mono ?_); rintro e w1 ⟨rfl, hb1⟩; have HB1 := Lib.hid (((Below.refl w.heap.size w).alloc (Nat.le_refl _) (.cells #[.int .i64 6, .int .i64 7, .int .i64 8] 3)).trans (hb1.mono (by simp))); clear hb1))
  go_loopw [7] (fun iv wr => ∃ (q : Nat) (a : Nd), iv = .int .i64 q ∧ q ≤ N ∧ Hid (a.fo .nil = tw 7 q) ∧ Hid (Bx wr w1.heap.size (.int .i64 a.k) (.string a.l) (.slice a.A a.kids.len a.c) (.int .i64 a.mn) (.int .i64 a.mx)) ∧ Hid (a.ok wr [w1.heap.size]) ∧ Hid (Below w.heap.size w wr)) (fun iv _ => N - (RowKit.intOf iv).toNat)
  case atStart => exact ⟨0, ⟨2, ⟨#[97]⟩, none, 0, 0, 0, .nil⟩, rfl, Nat.zero_le _, Lib.hid rfl, Lib.hid (Bx.new w1 _ _ _ _ _ _), Lib.hid ⟨Nat.le_refl _, (show (0 : Nat) ≤ 9223372036854775807 by decide), trivial⟩, Lib.hid (HB1.out.alloc HB1.out.size _)⟩
  case round =>
    obtain ⟨q, a, rfl, hq, hf, hx, hok, hbel⟩ := hrel
    obtain ⟨n1, n2, n3, n4⟩ := tw_nd hf.out
    obtain ⟨d1, d2, d3, d4⟩ := tw_is 7 (by omega) q (by have := HN.out; omega)
    have hD2 := Lib.hid (show dp a.kids 1 = (q : Int) + 1 by rw [n1]; exact d1)
    have hd2 : dp a.kids 1 ≤ 40 := by rw [hD2.out]; have := HN.out; omega
    have Hd2 := Lib.hid hd2
    have HBD := Lib.hid n4
    have HP := Lib.hid hx.out.lt
    have HPW := Lib.hid HB1.out.size
    have hS2' := Lib.hid n2
    have hE' := Lib.hid (n3.trans d4)
    have hD1' := Lib.hid (show dp (a.fo .nil) 1 = (q : Int) + 1 + 1 by rw [hf.out]; exact d2)
    have hgt := Lib.hid d3
    obtain ⟨a0, a1, a2, a3, a4, _⟩ := hx.out
    clear n1 n2 n3 n4 d1 d2 d3 d4 hd2
    by_cases hlt : (q : Int) < N
    · have hq0 : (0 : Int) ≤ q := by omega
      have hw := IntWalk.i64_in ((q : Int) + 1 + 1) (by have := HN.out; omega)
      have hw0 := IntWalk.i64_in ((q : Int) + 1) (by have := HN.out; omega)
      obtain ⟨S2, hS2⟩ : ∃ S2, sizeF a.k a.kids a.mn a.mx = S2 := ⟨_, rfl⟩
      obtain ⟨S1, hS1⟩ : ∃ S1, sizeF 7 (a.fo .nil) 0 0 = S1 := ⟨_, rfl⟩
      have tS : decide (S1 ≤ S2) = false := decide_eq_false (by
        have e1 := (tw_nd (tw_up hf.out 0)).2.1
        have e2 : sizeF 7 (a.fo .nil) 0 0 = twS 7 (q + 1) := e1
        have := hgt.out
        rw [hS1] at e2
        have e3 := hS2'.out
        rw [hS2] at e3
        omega)
      have HS1 := Lib.hid hS1
      have HS2 := Lib.hid hS2
      clear hS1 hS2
      have hs1 : (wr.alloc (cells5 a.k a.l a.A a.kids.len a.c a.mn a.mx)).heap.size = wr.heap.size + 1 := by simp
      have HX := Lib.hid (fun (w' : World) (h : Below ((wr.alloc (cells5 a.k a.l a.A a.kids.len a.c a.mn a.mx)).alloc (cells5 7 ⟨#[]⟩ (some ⟨wr.heap.size, 0, none⟩) 1 1 0 0)).heap.size ((wr.alloc (cells5 a.k a.l a.A a.kids.len a.c a.mn a.mx)).alloc (cells5 7 ⟨#[]⟩ (some ⟨wr.heap.size, 0, none⟩) 1 1 0 0)) w') => ((hx.out.al (cells5 a.k a.l a.A a.kids.len a.c a.mn a.mx)).al (cells5 7 ⟨#[]⟩ (some ⟨wr.heap.size, 0, none⟩) 1 1 0 0)).below h)
      have HQ := Lib.hid (fun (w' : World) (h : Below ((wr.alloc (cells5 a.k a.l a.A a.kids.len a.c a.mn a.mx)).alloc (cells5 7 ⟨#[]⟩ (some ⟨wr.heap.size, 0, none⟩) 1 1 0 0)).heap.size ((wr.alloc (cells5 a.k a.l a.A a.kids.len a.c a.mn a.mx)).alloc (cells5 7 ⟨#[]⟩ (some ⟨wr.heap.size, 0, none⟩) 1 1 0 0)) w') => (show Bx w' (wr.heap.size + 1) (.int .i64 7) (.string ⟨#[]⟩) (.slice (some ⟨wr.heap.size, 0, none⟩) 1 1) (.int .i64 0) (.int .i64 0) from hs1 ▸ (Bx.new (wr.alloc (cells5 a.k a.l a.A a.kids.len a.c a.mn a.mx)) (.int .i64 7) (.string ⟨#[]⟩) (.slice (some ⟨wr.heap.size, 0, none⟩) 1 1) (.int .i64 0) (.int .i64 0) 27).below h))
      have HO := Lib.hid (fun (w' : World) (h : Below ((wr.alloc (cells5 a.k a.l a.A a.kids.len a.c a.mn a.mx)).alloc (cells5 7 ⟨#[]⟩ (some ⟨wr.heap.size, 0, none⟩) 1 1 0 0)).heap.size ((wr.alloc (cells5 a.k a.l a.A a.kids.len a.c a.mn a.mx)).alloc (cells5 7 ⟨#[]⟩ (some ⟨wr.heap.size, 0, none⟩) 1 1 0 0)) w') => (solo_ok 7 wr w1.heap.size HP.out hok.out).below h)
      have HA := Lib.hid (fun (w' : World) (h : Below ((wr.alloc (cells5 a.k a.l a.A a.kids.len a.c a.mn a.mx)).alloc (cells5 7 ⟨#[]⟩ (some ⟨wr.heap.size, 0, none⟩) 1 1 0 0)).heap.size ((wr.alloc (cells5 a.k a.l a.A a.kids.len a.c a.mn a.mx)).alloc (cells5 7 ⟨#[]⟩ (some ⟨wr.heap.size, 0, none⟩) 1 1 0 0)) w') => ((hok.out.al (cells5 a.k a.l a.A a.kids.len a.c a.mn a.mx)).al (cells5 7 ⟨#[]⟩ (some ⟨wr.heap.size, 0, none⟩) 1 1 0 0)).below h)
      have HS := Lib.hid (fun (w' : World) (h : Below ((wr.alloc (cells5 a.k a.l a.A a.kids.len a.c a.mn a.mx)).alloc (cells5 7 ⟨#[]⟩ (some ⟨wr.heap.size, 0, none⟩) 1 1 0 0)).heap.size ((wr.alloc (cells5 a.k a.l a.A a.kids.len a.c a.mn a.mx)).alloc (cells5 7 ⟨#[]⟩ (some ⟨wr.heap.size, 0, none⟩) 1 1 0 0)) w') => (⟨(HX.out w' h).c0, (HX.out w' h).c1, (HX.out w' h).c2, (HX.out w' h).c3, (HX.out w' h).c4, (HQ.out w' h).c0, (HQ.out w' h).c1, (HQ.out w' h).c2, (HQ.out w' h).c3, (HQ.out w' h).c4⟩ : w'.cell? ⟨w1.heap.size, 0, none⟩ = some (.int .i64 a.k) ∧ w'.cell? ⟨w1.heap.size, 1, none⟩ = some (.string a.l) ∧ w'.cell? ⟨w1.heap.size, 2, none⟩ = some (.slice a.A a.kids.len a.c) ∧ w'.cell? ⟨w1.heap.size, 3, none⟩ = some (.int .i64 a.mn) ∧ w'.cell? ⟨w1.heap.size, 4, none⟩ = some (.int .i64 a.mx) ∧ w'.cell? ⟨wr.heap.size + 1, 0, none⟩ = some (.int .i64 7) ∧ w'.cell? ⟨wr.heap.size + 1, 1, none⟩ = some (.string ⟨#[]⟩) ∧ w'.cell? ⟨wr.heap.size + 1, 2, none⟩ = some (.slice (some ⟨wr.heap.size, 0, none⟩) 1 1) ∧ w'.cell? ⟨wr.heap.size + 1, 3, none⟩ = some (.int .i64 0) ∧ w'.cell? ⟨wr.heap.size + 1, 4, none⟩ = some (.int .i64 0)))
      have HWW := Lib.hid ((hbel.out.alloc hbel.out.size (cells5 a.k a.l a.A a.kids.len a.c a.mn a.mx)).alloc (by have := hbel.out.size; simp; omega) (cells5 7 ⟨#[]⟩ (some ⟨wr.heap.size, 0, none⟩) 1 1 0 0))
      have HWZ := Lib.hid (show w.heap.size ≤ ((wr.alloc (cells5 a.k a.l a.A a.kids.len a.c a.mn a.mx)).alloc (cells5 7 ⟨#[]⟩ (some ⟨wr.heap.size, 0, none⟩) 1 1 0 0)).heap.size by have := hbel.out.size; simp; omega)
      clear hs1
      go_wp2_with fail
      clear a0 a1 a2 a3 a4
      have F1 := HS.out _ (Below.refl _ _)
      go_region_held3 (fun w' => w'.cell? ⟨w1.heap.size, 0, none⟩ = some (.int .i64 a.k) ∧ w'.cell? ⟨w1.heap.size, 1, none⟩ = some (.string a.l) ∧ w'.cell? ⟨w1.heap.size, 2, none⟩ = some (.slice a.A a.kids.len a.c) ∧ w'.cell? ⟨w1.heap.size, 3, none⟩ = some (.int .i64 a.mn) ∧ w'.cell? ⟨w1.heap.size, 4, none⟩ = some (.int .i64 a.mx) ∧ w'.cell? ⟨wr.heap.size + 1, 0, none⟩ = some (.int .i64 7) ∧ w'.cell? ⟨wr.heap.size + 1, 1, none⟩ = some (.string ⟨#[]⟩) ∧ w'.cell? ⟨wr.heap.size + 1, 2, none⟩ = some (.slice (some ⟨wr.heap.size, 0, none⟩) 1 1) ∧ w'.cell? ⟨wr.heap.size + 1, 3, none⟩ = some (.int .i64 0) ∧ w'.cell? ⟨wr.heap.size + 1, 4, none⟩ = some (.int .i64 0)) (first | exact F1) (first
        | (go_at_call 17; (with_reducible refine (deep_solo 7 wr.heap.size a [w1.heap.size] _ (HO.out _ (Below.refl _ _).drew) hD1').mono ?_); rintro e w2 ⟨rfl, hb2⟩; have HB2 := Lib.hid (below_go (Below.refl _ _).drew hb2); have F1 := HS.out _ HB2.out; clear hb2)
        | (go_at_call 17; (with_reducible refine (deep_is a [w1.heap.size] _ (HA.out _ HB2.out) hD2).mono ?_); rintro e w3 ⟨rfl, hb3⟩; have HB2 := Lib.hid (below_go HB2.out hb3); have F1 := HS.out _ HB2.out; clear hb3)
        | (go_at_call 18; (with_reducible refine (size_solo 7 wr.heap.size a [w1.heap.size] _ (HO.out _ HB2.out) (bd_solo HBD.out _ _) (by rw [hD1'.out]; have := HN.out; omega) HS1).mono ?_); rintro e w4 ⟨rfl, hb4⟩; have HB2 := Lib.hid (below_go HB2.out hb4); have F1 := HS.out _ HB2.out; clear hb4)
        | (go_at_call 18; (with_reducible refine (size_is a [w1.heap.size] _ (HA.out _ HB2.out) HBD.out Hd2.out HS2).mono ?_); rintro e w5 ⟨rfl, hb5⟩; have HB2 := Lib.hid (below_go HB2.out hb5); have F1 := HS.out _ HB2.out; clear hb5))
      all_goals
        have HXX := Lib.hid (HX.out _ HB2.out)
        have HOO := Lib.hid (HO.out _ HB2.out)
        have HB3 := Lib.hid (HWW.out.trans (HB2.out.mono HWZ.out))
        obtain ⟨x0, x1, x2, x3, x4, f0, f1, f2, f3, f4⟩ := HXX.out
        obtain ⟨_, _, _, _, _, y0, y1, y2, y3, y4⟩ := F1
        go_wp2_with fail
        exact ⟨⟨q + 1, solo 7 wr.heap.size a, by go_num, by omega, Lib.hid (tw_up hf.out _), Lib.hid HXX.out.w5, Lib.hid (HOO.out.w5 (by simp)), Lib.hid (((((HB3.out.setCell HPW.out _).setCell HPW.out _).setCell HPW.out _).setCell HPW.out _).setCell HPW.out _)⟩, by simp [RowKit.intOf]; omega⟩
    · have hqN : q = N := by omega
      subst hqN
      have LL := Lib.hid (hL0.out.below hbel.out)
      have BB := hbel
      have HX := hx
      have HO := hok
      have HE := Lib.hid (hE'.out.trans HEE.out)
      obtain ⟨T, hT⟩ : ∃ T, textT a.k a.l a.kids a.mn a.mx = T := ⟨_, rfl⟩
      have HT := Lib.hid hT
      have hne : T ≠ [] := fun e => textT_ne.1 (hT.trans e) HE.out
      have te : (T == []) = false := by cases T with | nil => exact absurd rfl hne | cons => rfl
      have te2 : T.isEmpty = false := by cases T with | nil => exact absurd rfl hne | cons => rfl
      clear hT hne
      obtain ⟨S2, hS2⟩ : ∃ S2, sizeF a.k a.kids a.mn a.mx = S2 := ⟨_, rfl⟩
      have tS : decide (S2 > 60) = false := decide_eq_false (by have e1 := hS2'.out; have e2 := HSS.out; rw [hS2] at e1; omega)
      have HS2 := Lib.hid hS2
      clear hS2
      go_wp2_with (first
        | (go_at_call 18; (with_reducible refine (size_is a [w1.heap.size] _ HO.out HBD.out Hd2.out HS2).mono ?_); rintro e w2 ⟨rfl, hb2⟩; have HX := Lib.hid (HX.out.below hb2); have HO := Lib.hid (HO.out.below hb2); have BB := Lib.hid (below_go BB.out hb2); have LL := Lib.hid (hL0.out.below BB.out); clear hb2; obtain ⟨a0, a1, a2, a3, a4, _⟩ := HX.out)
        | (go_at_call 11; (with_reducible refine (checkX a [w1.heap.size] _ HO.out HBD.out HE).mono ?_); rintro e w3 ⟨rfl, hb3⟩; have HX := Lib.hid (HX.out.below hb3); have HO := Lib.hid (HO.out.below hb3); have BB := Lib.hid (below_go BB.out hb3); have LL := Lib.hid (hL0.out.below BB.out); clear hb3; obtain ⟨a0, a1, a2, a3, a4, _⟩ := HX.out)
        | (go_at_call 12; (with_reducible refine (textX a [w1.heap.size] _ HO.out HBD.out HT).mono ?_); rintro e w4 ⟨rfl, hb4⟩; have HX := Lib.hid (HX.out.below hb4); have HO := Lib.hid (HO.out.below hb4); have BB := Lib.hid (below_go BB.out hb4); have LL := Lib.hid (hL0.out.below BB.out); clear hb4; obtain ⟨a0, a1, a2, a3, a4, _⟩ := HX.out)
        | (go_at_call 8; (with_reducible refine (awake_any _ LL.out).mono ?_); rintro e wz ⟨rfl, hbz⟩))
      go_ret
      exact ⟨rfl, below_go BB.out hbz⟩
set_option linter.unusedSimpArgs false in
set_option maxRecDepth 100000 in
set_option maxHeartbeats 16000000 in
theorem grows_20 (N : Nat) (k : Int) (w : World) (hG : ErG w) (hN : N ≤ 30) (hk : Hid (rnd3 k = 2)) (h20 : 20 ≤ N) :
    Calls Tryd.prog 6 #[.int .i64 (N : Int), .int .i64 k] w fun e w' => e = .returned (.bool true) ∧ Below w.heap.size w w' := by
  have t1 : decide ((N : Int) < 0) = false := decide_eq_false (by omega)
  have t2 : decide ((N : Int) > 30) = false := decide_eq_false (by omega)
  have t3 : decide ((N : Int) ≥ 20) = true := decide_eq_true (by omega)
  have hL0 := Lib.hid hG
  have HN := Lib.hid hN
  have HEE := Lib.hid (show wantE 8 N = 4 from if_pos h20)
  clear hG hN h20
  go_enter Tryd.func6, Tryd.ntmps6
  go_wp2_with (first
    | (go_at_call 14; (with_reducible refine (round_any k _).mono ?_); rintro e w1 ⟨rfl, rfl⟩; rw [hk.out])
    | (go_at_call 16; (with_reducible refine (fwd_any _ _).mono ?_); rintro e w1 ⟨rfl, hb1⟩; have HB1 := Lib.hid (((Below.refl w.heap.size w).alloc (Nat.le_refl _) (.cells #[.int .i64 6, .int .i64 7, .int .i64 8] 3)).trans (hb1.mono (by simp))); clear hb1))
  go_loopw [7] (fun iv wr => ∃ (q : Nat) (a : Nd), iv = .int .i64 q ∧ q ≤ N ∧ Hid (a.fo .nil = tw 8 q) ∧ Hid (Bx wr w1.heap.size (.int .i64 a.k) (.string a.l) (.slice a.A a.kids.len a.c) (.int .i64 a.mn) (.int .i64 a.mx)) ∧ Hid (a.ok wr [w1.heap.size]) ∧ Hid (Below w.heap.size w wr)) (fun iv _ => N - (RowKit.intOf iv).toNat)
  case atStart => exact ⟨0, ⟨2, ⟨#[97]⟩, none, 0, 0, 0, .nil⟩, rfl, Nat.zero_le _, Lib.hid rfl, Lib.hid (Bx.new w1 _ _ _ _ _ _), Lib.hid ⟨Nat.le_refl _, (show (0 : Nat) ≤ 9223372036854775807 by decide), trivial⟩, Lib.hid (HB1.out.alloc HB1.out.size _)⟩
  case round =>
    obtain ⟨q, a, rfl, hq, hf, hx, hok, hbel⟩ := hrel
    obtain ⟨n1, n2, n3, n4⟩ := tw_nd hf.out
    obtain ⟨d1, d2, d3, d4⟩ := tw_is 8 (by omega) q (by have := HN.out; omega)
    have hD2 := Lib.hid (show dp a.kids 1 = (q : Int) + 1 by rw [n1]; exact d1)
    have hd2 : dp a.kids 1 ≤ 40 := by rw [hD2.out]; have := HN.out; omega
    have Hd2 := Lib.hid hd2
    have HBD := Lib.hid n4
    have HP := Lib.hid hx.out.lt
    have HPW := Lib.hid HB1.out.size
    have hS2' := Lib.hid n2
    have hE' := Lib.hid (n3.trans d4)
    have hD1' := Lib.hid (show dp (a.fo .nil) 1 = (q : Int) + 1 + 1 by rw [hf.out]; exact d2)
    have hgt := Lib.hid d3
    obtain ⟨a0, a1, a2, a3, a4, _⟩ := hx.out
    clear n1 n2 n3 n4 d1 d2 d3 d4 hd2
    by_cases hlt : (q : Int) < N
    · have hq0 : (0 : Int) ≤ q := by omega
      have hw := IntWalk.i64_in ((q : Int) + 1 + 1) (by have := HN.out; omega)
      have hw0 := IntWalk.i64_in ((q : Int) + 1) (by have := HN.out; omega)
      obtain ⟨S2, hS2⟩ : ∃ S2, sizeF a.k a.kids a.mn a.mx = S2 := ⟨_, rfl⟩
      obtain ⟨S1, hS1⟩ : ∃ S1, sizeF 8 (a.fo .nil) 0 0 = S1 := ⟨_, rfl⟩
      have tS : decide (S1 ≤ S2) = false := decide_eq_false (by
        have e1 := (tw_nd (tw_up hf.out 0)).2.1
        have e2 : sizeF 8 (a.fo .nil) 0 0 = twS 8 (q + 1) := e1
        have := hgt.out
        rw [hS1] at e2
        have e3 := hS2'.out
        rw [hS2] at e3
        omega)
      have HS1 := Lib.hid hS1
      have HS2 := Lib.hid hS2
      clear hS1 hS2
      have hs1 : (wr.alloc (cells5 a.k a.l a.A a.kids.len a.c a.mn a.mx)).heap.size = wr.heap.size + 1 := by simp
      have HX := Lib.hid (fun (w' : World) (h : Below ((wr.alloc (cells5 a.k a.l a.A a.kids.len a.c a.mn a.mx)).alloc (cells5 8 ⟨#[]⟩ (some ⟨wr.heap.size, 0, none⟩) 1 1 0 0)).heap.size ((wr.alloc (cells5 a.k a.l a.A a.kids.len a.c a.mn a.mx)).alloc (cells5 8 ⟨#[]⟩ (some ⟨wr.heap.size, 0, none⟩) 1 1 0 0)) w') => ((hx.out.al (cells5 a.k a.l a.A a.kids.len a.c a.mn a.mx)).al (cells5 8 ⟨#[]⟩ (some ⟨wr.heap.size, 0, none⟩) 1 1 0 0)).below h)
      have HQ := Lib.hid (fun (w' : World) (h : Below ((wr.alloc (cells5 a.k a.l a.A a.kids.len a.c a.mn a.mx)).alloc (cells5 8 ⟨#[]⟩ (some ⟨wr.heap.size, 0, none⟩) 1 1 0 0)).heap.size ((wr.alloc (cells5 a.k a.l a.A a.kids.len a.c a.mn a.mx)).alloc (cells5 8 ⟨#[]⟩ (some ⟨wr.heap.size, 0, none⟩) 1 1 0 0)) w') => (show Bx w' (wr.heap.size + 1) (.int .i64 8) (.string ⟨#[]⟩) (.slice (some ⟨wr.heap.size, 0, none⟩) 1 1) (.int .i64 0) (.int .i64 0) from hs1 ▸ (Bx.new (wr.alloc (cells5 a.k a.l a.A a.kids.len a.c a.mn a.mx)) (.int .i64 8) (.string ⟨#[]⟩) (.slice (some ⟨wr.heap.size, 0, none⟩) 1 1) (.int .i64 0) (.int .i64 0) 27).below h))
      have HO := Lib.hid (fun (w' : World) (h : Below ((wr.alloc (cells5 a.k a.l a.A a.kids.len a.c a.mn a.mx)).alloc (cells5 8 ⟨#[]⟩ (some ⟨wr.heap.size, 0, none⟩) 1 1 0 0)).heap.size ((wr.alloc (cells5 a.k a.l a.A a.kids.len a.c a.mn a.mx)).alloc (cells5 8 ⟨#[]⟩ (some ⟨wr.heap.size, 0, none⟩) 1 1 0 0)) w') => (solo_ok 8 wr w1.heap.size HP.out hok.out).below h)
      have HA := Lib.hid (fun (w' : World) (h : Below ((wr.alloc (cells5 a.k a.l a.A a.kids.len a.c a.mn a.mx)).alloc (cells5 8 ⟨#[]⟩ (some ⟨wr.heap.size, 0, none⟩) 1 1 0 0)).heap.size ((wr.alloc (cells5 a.k a.l a.A a.kids.len a.c a.mn a.mx)).alloc (cells5 8 ⟨#[]⟩ (some ⟨wr.heap.size, 0, none⟩) 1 1 0 0)) w') => ((hok.out.al (cells5 a.k a.l a.A a.kids.len a.c a.mn a.mx)).al (cells5 8 ⟨#[]⟩ (some ⟨wr.heap.size, 0, none⟩) 1 1 0 0)).below h)
      have HS := Lib.hid (fun (w' : World) (h : Below ((wr.alloc (cells5 a.k a.l a.A a.kids.len a.c a.mn a.mx)).alloc (cells5 8 ⟨#[]⟩ (some ⟨wr.heap.size, 0, none⟩) 1 1 0 0)).heap.size ((wr.alloc (cells5 a.k a.l a.A a.kids.len a.c a.mn a.mx)).alloc (cells5 8 ⟨#[]⟩ (some ⟨wr.heap.size, 0, none⟩) 1 1 0 0)) w') => (⟨(HX.out w' h).c0, (HX.out w' h).c1, (HX.out w' h).c2, (HX.out w' h).c3, (HX.out w' h).c4, (HQ.out w' h).c0, (HQ.out w' h).c1, (HQ.out w' h).c2, (HQ.out w' h).c3, (HQ.out w' h).c4⟩ : w'.cell? ⟨w1.heap.size, 0, none⟩ = some (.int .i64 a.k) ∧ w'.cell? ⟨w1.heap.size, 1, none⟩ = some (.string a.l) ∧ w'.cell? ⟨w1.heap.size, 2, none⟩ = some (.slice a.A a.kids.len a.c) ∧ w'.cell? ⟨w1.heap.size, 3, none⟩ = some (.int .i64 a.mn) ∧ w'.cell? ⟨w1.heap.size, 4, none⟩ = some (.int .i64 a.mx) ∧ w'.cell? ⟨wr.heap.size + 1, 0, none⟩ = some (.int .i64 8) ∧ w'.cell? ⟨wr.heap.size + 1, 1, none⟩ = some (.string ⟨#[]⟩) ∧ w'.cell? ⟨wr.heap.size + 1, 2, none⟩ = some (.slice (some ⟨wr.heap.size, 0, none⟩) 1 1) ∧ w'.cell? ⟨wr.heap.size + 1, 3, none⟩ = some (.int .i64 0) ∧ w'.cell? ⟨wr.heap.size + 1, 4, none⟩ = some (.int .i64 0)))
      have HWW := Lib.hid ((hbel.out.alloc hbel.out.size (cells5 a.k a.l a.A a.kids.len a.c a.mn a.mx)).alloc (by have := hbel.out.size; simp; omega) (cells5 8 ⟨#[]⟩ (some ⟨wr.heap.size, 0, none⟩) 1 1 0 0))
      have HWZ := Lib.hid (show w.heap.size ≤ ((wr.alloc (cells5 a.k a.l a.A a.kids.len a.c a.mn a.mx)).alloc (cells5 8 ⟨#[]⟩ (some ⟨wr.heap.size, 0, none⟩) 1 1 0 0)).heap.size by have := hbel.out.size; simp; omega)
      clear hs1
      go_wp2_with fail
      clear a0 a1 a2 a3 a4
      have F1 := HS.out _ (Below.refl _ _)
      go_region_held3 (fun w' => w'.cell? ⟨w1.heap.size, 0, none⟩ = some (.int .i64 a.k) ∧ w'.cell? ⟨w1.heap.size, 1, none⟩ = some (.string a.l) ∧ w'.cell? ⟨w1.heap.size, 2, none⟩ = some (.slice a.A a.kids.len a.c) ∧ w'.cell? ⟨w1.heap.size, 3, none⟩ = some (.int .i64 a.mn) ∧ w'.cell? ⟨w1.heap.size, 4, none⟩ = some (.int .i64 a.mx) ∧ w'.cell? ⟨wr.heap.size + 1, 0, none⟩ = some (.int .i64 8) ∧ w'.cell? ⟨wr.heap.size + 1, 1, none⟩ = some (.string ⟨#[]⟩) ∧ w'.cell? ⟨wr.heap.size + 1, 2, none⟩ = some (.slice (some ⟨wr.heap.size, 0, none⟩) 1 1) ∧ w'.cell? ⟨wr.heap.size + 1, 3, none⟩ = some (.int .i64 0) ∧ w'.cell? ⟨wr.heap.size + 1, 4, none⟩ = some (.int .i64 0)) (first | exact F1) (first
        | (go_at_call 17; (with_reducible refine (deep_solo 8 wr.heap.size a [w1.heap.size] _ (HO.out _ (Below.refl _ _).drew) hD1').mono ?_); rintro e w2 ⟨rfl, hb2⟩; have HB2 := Lib.hid (below_go (Below.refl _ _).drew hb2); have F1 := HS.out _ HB2.out; clear hb2)
        | (go_at_call 17; (with_reducible refine (deep_is a [w1.heap.size] _ (HA.out _ HB2.out) hD2).mono ?_); rintro e w3 ⟨rfl, hb3⟩; have HB2 := Lib.hid (below_go HB2.out hb3); have F1 := HS.out _ HB2.out; clear hb3)
        | (go_at_call 18; (with_reducible refine (size_solo 8 wr.heap.size a [w1.heap.size] _ (HO.out _ HB2.out) (bd_solo HBD.out _ _) (by rw [hD1'.out]; have := HN.out; omega) HS1).mono ?_); rintro e w4 ⟨rfl, hb4⟩; have HB2 := Lib.hid (below_go HB2.out hb4); have F1 := HS.out _ HB2.out; clear hb4)
        | (go_at_call 18; (with_reducible refine (size_is a [w1.heap.size] _ (HA.out _ HB2.out) HBD.out Hd2.out HS2).mono ?_); rintro e w5 ⟨rfl, hb5⟩; have HB2 := Lib.hid (below_go HB2.out hb5); have F1 := HS.out _ HB2.out; clear hb5))
      all_goals
        have HXX := Lib.hid (HX.out _ HB2.out)
        have HOO := Lib.hid (HO.out _ HB2.out)
        have HB3 := Lib.hid (HWW.out.trans (HB2.out.mono HWZ.out))
        obtain ⟨x0, x1, x2, x3, x4, f0, f1, f2, f3, f4⟩ := HXX.out
        obtain ⟨_, _, _, _, _, y0, y1, y2, y3, y4⟩ := F1
        go_wp2_with fail
        exact ⟨⟨q + 1, solo 8 wr.heap.size a, by go_num, by omega, Lib.hid (tw_up hf.out _), Lib.hid HXX.out.w5, Lib.hid (HOO.out.w5 (by simp)), Lib.hid (((((HB3.out.setCell HPW.out _).setCell HPW.out _).setCell HPW.out _).setCell HPW.out _).setCell HPW.out _)⟩, by simp [RowKit.intOf]; omega⟩
    · have hqN : q = N := by omega
      subst hqN
      have LL := Lib.hid (hL0.out.below hbel.out)
      have BB := hbel
      have HX := hx
      have HO := hok
      have HE := Lib.hid (hE'.out.trans HEE.out)
      have HT : Hid (textT a.k a.l a.kids a.mn a.mx = []) := textT_ne.2 (by rw [HE.out]; decide)
      go_wp2_with (first
        | (go_at_call 11; (with_reducible refine (checkX a [w1.heap.size] _ HO.out HBD.out HE).mono ?_); rintro e w3 ⟨rfl, hb3⟩; have HX := Lib.hid (HX.out.below hb3); have HO := Lib.hid (HO.out.below hb3); have BB := Lib.hid (below_go BB.out hb3); have LL := Lib.hid (hL0.out.below BB.out); clear hb3; obtain ⟨a0, a1, a2, a3, a4, _⟩ := HX.out)
        | (go_at_call 12; (with_reducible refine (textX a [w1.heap.size] _ HO.out HBD.out HT).mono ?_); rintro e w4 ⟨rfl, hb4⟩; have HX := Lib.hid (HX.out.below hb4); have HO := Lib.hid (HO.out.below hb4); have BB := Lib.hid (below_go BB.out hb4); have LL := Lib.hid (hL0.out.below BB.out); clear hb4; obtain ⟨a0, a1, a2, a3, a4, _⟩ := HX.out)
        | (go_at_call 8; (with_reducible refine (awake_any _ LL.out).mono ?_); rintro e wz ⟨rfl, hbz⟩))
      go_ret
      exact ⟨rfl, below_go BB.out hbz⟩
set_option linter.unusedSimpArgs false in
set_option maxRecDepth 100000 in
set_option maxHeartbeats 16000000 in
theorem grows_21 (N : Nat) (k : Int) (w : World) (hG : ErG w) (hN : N ≤ 30) (hk : Hid (rnd3 k = 2)) (h20 : N < 20) (hS : 60 < twS 8 N) :
    Calls Tryd.prog 6 #[.int .i64 (N : Int), .int .i64 k] w fun e w' => e = .returned (.bool true) ∧ Below w.heap.size w w' := by
  have t1 : decide ((N : Int) < 0) = false := decide_eq_false (by omega)
  have t2 : decide ((N : Int) > 30) = false := decide_eq_false (by omega)
  have t3 : decide ((N : Int) ≥ 20) = false := decide_eq_false (by omega)
  have hL0 := Lib.hid hG
  have HN := Lib.hid hN
  have HEE := Lib.hid (show wantE 8 N = 5 from (if_neg (by omega)).trans (if_pos hS))
  have HSS := Lib.hid hS
  clear hS
  clear hG hN h20
  go_enter Tryd.func6, Tryd.ntmps6
  go_wp2_with (first
    | (go_at_call 14; (with_reducible refine (round_any k _).mono ?_); rintro e w1 ⟨rfl, rfl⟩; rw [hk.out])
    | (go_at_call 16; (with_reducible refine (fwd_any _ _).mono ?_); rintro e w1 ⟨rfl, hb1⟩; have HB1 := Lib.hid (((Below.refl w.heap.size w).alloc (Nat.le_refl _) (.cells #[.int .i64 6, .int .i64 7, .int .i64 8] 3)).trans (hb1.mono (by simp))); clear hb1))
  go_loopw [7] (fun iv wr => ∃ (q : Nat) (a : Nd), iv = .int .i64 q ∧ q ≤ N ∧ Hid (a.fo .nil = tw 8 q) ∧ Hid (Bx wr w1.heap.size (.int .i64 a.k) (.string a.l) (.slice a.A a.kids.len a.c) (.int .i64 a.mn) (.int .i64 a.mx)) ∧ Hid (a.ok wr [w1.heap.size]) ∧ Hid (Below w.heap.size w wr)) (fun iv _ => N - (RowKit.intOf iv).toNat)
  case atStart => exact ⟨0, ⟨2, ⟨#[97]⟩, none, 0, 0, 0, .nil⟩, rfl, Nat.zero_le _, Lib.hid rfl, Lib.hid (Bx.new w1 _ _ _ _ _ _), Lib.hid ⟨Nat.le_refl _, (show (0 : Nat) ≤ 9223372036854775807 by decide), trivial⟩, Lib.hid (HB1.out.alloc HB1.out.size _)⟩
  case round =>
    obtain ⟨q, a, rfl, hq, hf, hx, hok, hbel⟩ := hrel
    obtain ⟨n1, n2, n3, n4⟩ := tw_nd hf.out
    obtain ⟨d1, d2, d3, d4⟩ := tw_is 8 (by omega) q (by have := HN.out; omega)
    have hD2 := Lib.hid (show dp a.kids 1 = (q : Int) + 1 by rw [n1]; exact d1)
    have hd2 : dp a.kids 1 ≤ 40 := by rw [hD2.out]; have := HN.out; omega
    have Hd2 := Lib.hid hd2
    have HBD := Lib.hid n4
    have HP := Lib.hid hx.out.lt
    have HPW := Lib.hid HB1.out.size
    have hS2' := Lib.hid n2
    have hE' := Lib.hid (n3.trans d4)
    have hD1' := Lib.hid (show dp (a.fo .nil) 1 = (q : Int) + 1 + 1 by rw [hf.out]; exact d2)
    have hgt := Lib.hid d3
    obtain ⟨a0, a1, a2, a3, a4, _⟩ := hx.out
    clear n1 n2 n3 n4 d1 d2 d3 d4 hd2
    by_cases hlt : (q : Int) < N
    · have hq0 : (0 : Int) ≤ q := by omega
      have hw := IntWalk.i64_in ((q : Int) + 1 + 1) (by have := HN.out; omega)
      have hw0 := IntWalk.i64_in ((q : Int) + 1) (by have := HN.out; omega)
      obtain ⟨S2, hS2⟩ : ∃ S2, sizeF a.k a.kids a.mn a.mx = S2 := ⟨_, rfl⟩
      obtain ⟨S1, hS1⟩ : ∃ S1, sizeF 8 (a.fo .nil) 0 0 = S1 := ⟨_, rfl⟩
      have tS : decide (S1 ≤ S2) = false := decide_eq_false (by
        have e1 := (tw_nd (tw_up hf.out 0)).2.1
        have e2 : sizeF 8 (a.fo .nil) 0 0 = twS 8 (q + 1) := e1
        have := hgt.out
        rw [hS1] at e2
        have e3 := hS2'.out
        rw [hS2] at e3
        omega)
      have HS1 := Lib.hid hS1
      have HS2 := Lib.hid hS2
      clear hS1 hS2
      have hs1 : (wr.alloc (cells5 a.k a.l a.A a.kids.len a.c a.mn a.mx)).heap.size = wr.heap.size + 1 := by simp
      have HX := Lib.hid (fun (w' : World) (h : Below ((wr.alloc (cells5 a.k a.l a.A a.kids.len a.c a.mn a.mx)).alloc (cells5 8 ⟨#[]⟩ (some ⟨wr.heap.size, 0, none⟩) 1 1 0 0)).heap.size ((wr.alloc (cells5 a.k a.l a.A a.kids.len a.c a.mn a.mx)).alloc (cells5 8 ⟨#[]⟩ (some ⟨wr.heap.size, 0, none⟩) 1 1 0 0)) w') => ((hx.out.al (cells5 a.k a.l a.A a.kids.len a.c a.mn a.mx)).al (cells5 8 ⟨#[]⟩ (some ⟨wr.heap.size, 0, none⟩) 1 1 0 0)).below h)
      have HQ := Lib.hid (fun (w' : World) (h : Below ((wr.alloc (cells5 a.k a.l a.A a.kids.len a.c a.mn a.mx)).alloc (cells5 8 ⟨#[]⟩ (some ⟨wr.heap.size, 0, none⟩) 1 1 0 0)).heap.size ((wr.alloc (cells5 a.k a.l a.A a.kids.len a.c a.mn a.mx)).alloc (cells5 8 ⟨#[]⟩ (some ⟨wr.heap.size, 0, none⟩) 1 1 0 0)) w') => (show Bx w' (wr.heap.size + 1) (.int .i64 8) (.string ⟨#[]⟩) (.slice (some ⟨wr.heap.size, 0, none⟩) 1 1) (.int .i64 0) (.int .i64 0) from hs1 ▸ (Bx.new (wr.alloc (cells5 a.k a.l a.A a.kids.len a.c a.mn a.mx)) (.int .i64 8) (.string ⟨#[]⟩) (.slice (some ⟨wr.heap.size, 0, none⟩) 1 1) (.int .i64 0) (.int .i64 0) 27).below h))
      have HO := Lib.hid (fun (w' : World) (h : Below ((wr.alloc (cells5 a.k a.l a.A a.kids.len a.c a.mn a.mx)).alloc (cells5 8 ⟨#[]⟩ (some ⟨wr.heap.size, 0, none⟩) 1 1 0 0)).heap.size ((wr.alloc (cells5 a.k a.l a.A a.kids.len a.c a.mn a.mx)).alloc (cells5 8 ⟨#[]⟩ (some ⟨wr.heap.size, 0, none⟩) 1 1 0 0)) w') => (solo_ok 8 wr w1.heap.size HP.out hok.out).below h)
      have HA := Lib.hid (fun (w' : World) (h : Below ((wr.alloc (cells5 a.k a.l a.A a.kids.len a.c a.mn a.mx)).alloc (cells5 8 ⟨#[]⟩ (some ⟨wr.heap.size, 0, none⟩) 1 1 0 0)).heap.size ((wr.alloc (cells5 a.k a.l a.A a.kids.len a.c a.mn a.mx)).alloc (cells5 8 ⟨#[]⟩ (some ⟨wr.heap.size, 0, none⟩) 1 1 0 0)) w') => ((hok.out.al (cells5 a.k a.l a.A a.kids.len a.c a.mn a.mx)).al (cells5 8 ⟨#[]⟩ (some ⟨wr.heap.size, 0, none⟩) 1 1 0 0)).below h)
      have HS := Lib.hid (fun (w' : World) (h : Below ((wr.alloc (cells5 a.k a.l a.A a.kids.len a.c a.mn a.mx)).alloc (cells5 8 ⟨#[]⟩ (some ⟨wr.heap.size, 0, none⟩) 1 1 0 0)).heap.size ((wr.alloc (cells5 a.k a.l a.A a.kids.len a.c a.mn a.mx)).alloc (cells5 8 ⟨#[]⟩ (some ⟨wr.heap.size, 0, none⟩) 1 1 0 0)) w') => (⟨(HX.out w' h).c0, (HX.out w' h).c1, (HX.out w' h).c2, (HX.out w' h).c3, (HX.out w' h).c4, (HQ.out w' h).c0, (HQ.out w' h).c1, (HQ.out w' h).c2, (HQ.out w' h).c3, (HQ.out w' h).c4⟩ : w'.cell? ⟨w1.heap.size, 0, none⟩ = some (.int .i64 a.k) ∧ w'.cell? ⟨w1.heap.size, 1, none⟩ = some (.string a.l) ∧ w'.cell? ⟨w1.heap.size, 2, none⟩ = some (.slice a.A a.kids.len a.c) ∧ w'.cell? ⟨w1.heap.size, 3, none⟩ = some (.int .i64 a.mn) ∧ w'.cell? ⟨w1.heap.size, 4, none⟩ = some (.int .i64 a.mx) ∧ w'.cell? ⟨wr.heap.size + 1, 0, none⟩ = some (.int .i64 8) ∧ w'.cell? ⟨wr.heap.size + 1, 1, none⟩ = some (.string ⟨#[]⟩) ∧ w'.cell? ⟨wr.heap.size + 1, 2, none⟩ = some (.slice (some ⟨wr.heap.size, 0, none⟩) 1 1) ∧ w'.cell? ⟨wr.heap.size + 1, 3, none⟩ = some (.int .i64 0) ∧ w'.cell? ⟨wr.heap.size + 1, 4, none⟩ = some (.int .i64 0)))
      have HWW := Lib.hid ((hbel.out.alloc hbel.out.size (cells5 a.k a.l a.A a.kids.len a.c a.mn a.mx)).alloc (by have := hbel.out.size; simp; omega) (cells5 8 ⟨#[]⟩ (some ⟨wr.heap.size, 0, none⟩) 1 1 0 0))
      have HWZ := Lib.hid (show w.heap.size ≤ ((wr.alloc (cells5 a.k a.l a.A a.kids.len a.c a.mn a.mx)).alloc (cells5 8 ⟨#[]⟩ (some ⟨wr.heap.size, 0, none⟩) 1 1 0 0)).heap.size by have := hbel.out.size; simp; omega)
      clear hs1
      go_wp2_with fail
      clear a0 a1 a2 a3 a4
      have F1 := HS.out _ (Below.refl _ _)
      go_region_held3 (fun w' => w'.cell? ⟨w1.heap.size, 0, none⟩ = some (.int .i64 a.k) ∧ w'.cell? ⟨w1.heap.size, 1, none⟩ = some (.string a.l) ∧ w'.cell? ⟨w1.heap.size, 2, none⟩ = some (.slice a.A a.kids.len a.c) ∧ w'.cell? ⟨w1.heap.size, 3, none⟩ = some (.int .i64 a.mn) ∧ w'.cell? ⟨w1.heap.size, 4, none⟩ = some (.int .i64 a.mx) ∧ w'.cell? ⟨wr.heap.size + 1, 0, none⟩ = some (.int .i64 8) ∧ w'.cell? ⟨wr.heap.size + 1, 1, none⟩ = some (.string ⟨#[]⟩) ∧ w'.cell? ⟨wr.heap.size + 1, 2, none⟩ = some (.slice (some ⟨wr.heap.size, 0, none⟩) 1 1) ∧ w'.cell? ⟨wr.heap.size + 1, 3, none⟩ = some (.int .i64 0) ∧ w'.cell? ⟨wr.heap.size + 1, 4, none⟩ = some (.int .i64 0)) (first | exact F1) (first
        | (go_at_call 17; (with_reducible refine (deep_solo 8 wr.heap.size a [w1.heap.size] _ (HO.out _ (Below.refl _ _).drew) hD1').mono ?_); rintro e w2 ⟨rfl, hb2⟩; have HB2 := Lib.hid (below_go (Below.refl _ _).drew hb2); have F1 := HS.out _ HB2.out; clear hb2)
        | (go_at_call 17; (with_reducible refine (deep_is a [w1.heap.size] _ (HA.out _ HB2.out) hD2).mono ?_); rintro e w3 ⟨rfl, hb3⟩; have HB2 := Lib.hid (below_go HB2.out hb3); have F1 := HS.out _ HB2.out; clear hb3)
        | (go_at_call 18; (with_reducible refine (size_solo 8 wr.heap.size a [w1.heap.size] _ (HO.out _ HB2.out) (bd_solo HBD.out _ _) (by rw [hD1'.out]; have := HN.out; omega) HS1).mono ?_); rintro e w4 ⟨rfl, hb4⟩; have HB2 := Lib.hid (below_go HB2.out hb4); have F1 := HS.out _ HB2.out; clear hb4)
        | (go_at_call 18; (with_reducible refine (size_is a [w1.heap.size] _ (HA.out _ HB2.out) HBD.out Hd2.out HS2).mono ?_); rintro e w5 ⟨rfl, hb5⟩; have HB2 := Lib.hid (below_go HB2.out hb5); have F1 := HS.out _ HB2.out; clear hb5))
      all_goals
        have HXX := Lib.hid (HX.out _ HB2.out)
        have HOO := Lib.hid (HO.out _ HB2.out)
        have HB3 := Lib.hid (HWW.out.trans (HB2.out.mono HWZ.out))
        obtain ⟨x0, x1, x2, x3, x4, f0, f1, f2, f3, f4⟩ := HXX.out
        obtain ⟨_, _, _, _, _, y0, y1, y2, y3, y4⟩ := F1
        go_wp2_with fail
        exact ⟨⟨q + 1, solo 8 wr.heap.size a, by go_num, by omega, Lib.hid (tw_up hf.out _), Lib.hid HXX.out.w5, Lib.hid (HOO.out.w5 (by simp)), Lib.hid (((((HB3.out.setCell HPW.out _).setCell HPW.out _).setCell HPW.out _).setCell HPW.out _).setCell HPW.out _)⟩, by simp [RowKit.intOf]; omega⟩
    · have hqN : q = N := by omega
      subst hqN
      have LL := Lib.hid (hL0.out.below hbel.out)
      have BB := hbel
      have HX := hx
      have HO := hok
      have HE := Lib.hid (hE'.out.trans HEE.out)
      have HT : Hid (textT a.k a.l a.kids a.mn a.mx = []) := textT_ne.2 (by rw [HE.out]; decide)
      obtain ⟨S2, hS2⟩ : ∃ S2, sizeF a.k a.kids a.mn a.mx = S2 := ⟨_, rfl⟩
      have tS : decide (S2 > 60) = true := decide_eq_true (by have e1 := hS2'.out; have e2 := HSS.out; rw [hS2] at e1; omega)
      have HS2 := Lib.hid hS2
      clear hS2
      go_wp2_with (first
        | (go_at_call 18; (with_reducible refine (size_is a [w1.heap.size] _ HO.out HBD.out Hd2.out HS2).mono ?_); rintro e w2 ⟨rfl, hb2⟩; have HX := Lib.hid (HX.out.below hb2); have HO := Lib.hid (HO.out.below hb2); have BB := Lib.hid (below_go BB.out hb2); have LL := Lib.hid (hL0.out.below BB.out); clear hb2; obtain ⟨a0, a1, a2, a3, a4, _⟩ := HX.out)
        | (go_at_call 11; (with_reducible refine (checkX a [w1.heap.size] _ HO.out HBD.out HE).mono ?_); rintro e w3 ⟨rfl, hb3⟩; have HX := Lib.hid (HX.out.below hb3); have HO := Lib.hid (HO.out.below hb3); have BB := Lib.hid (below_go BB.out hb3); have LL := Lib.hid (hL0.out.below BB.out); clear hb3; obtain ⟨a0, a1, a2, a3, a4, _⟩ := HX.out)
        | (go_at_call 12; (with_reducible refine (textX a [w1.heap.size] _ HO.out HBD.out HT).mono ?_); rintro e w4 ⟨rfl, hb4⟩; have HX := Lib.hid (HX.out.below hb4); have HO := Lib.hid (HO.out.below hb4); have BB := Lib.hid (below_go BB.out hb4); have LL := Lib.hid (hL0.out.below BB.out); clear hb4; obtain ⟨a0, a1, a2, a3, a4, _⟩ := HX.out)
        | (go_at_call 8; (with_reducible refine (awake_any _ LL.out).mono ?_); rintro e wz ⟨rfl, hbz⟩))
      go_ret
      exact ⟨rfl, below_go BB.out hbz⟩
set_option linter.unusedSimpArgs false in
set_option maxRecDepth 100000 in
set_option maxHeartbeats 16000000 in
theorem grows_22 (N : Nat) (k : Int) (w : World) (hG : ErG w) (hN : N ≤ 30) (hk : Hid (rnd3 k = 2)) (h20 : N < 20) (hS : ¬ 60 < twS 8 N) :
    Calls Tryd.prog 6 #[.int .i64 (N : Int), .int .i64 k] w fun e w' => e = .returned (.bool true) ∧ Below w.heap.size w w' := by
  have t1 : decide ((N : Int) < 0) = false := decide_eq_false (by omega)
  have t2 : decide ((N : Int) > 30) = false := decide_eq_false (by omega)
  have t3 : decide ((N : Int) ≥ 20) = false := decide_eq_false (by omega)
  have hL0 := Lib.hid hG
  have HN := Lib.hid hN
  have HEE := Lib.hid (show wantE 8 N = 0 from (if_neg (by omega)).trans (if_neg hS))
  have HSS := Lib.hid hS
  clear hS
  clear hG hN h20
  go_enter Tryd.func6, Tryd.ntmps6
  go_wp2_with (first
    | (go_at_call 14; (with_reducible refine (round_any k _).mono ?_); rintro e w1 ⟨rfl, rfl⟩; rw [hk.out])
    | (go_at_call 16; (with_reducible refine (fwd_any _ _).mono ?_); rintro e w1 ⟨rfl, hb1⟩; have HB1 := Lib.hid (((Below.refl w.heap.size w).alloc (Nat.le_refl _) (.cells #[.int .i64 6, .int .i64 7, .int .i64 8] 3)).trans (hb1.mono (by simp))); clear hb1))
  go_loopw [7] (fun iv wr => ∃ (q : Nat) (a : Nd), iv = .int .i64 q ∧ q ≤ N ∧ Hid (a.fo .nil = tw 8 q) ∧ Hid (Bx wr w1.heap.size (.int .i64 a.k) (.string a.l) (.slice a.A a.kids.len a.c) (.int .i64 a.mn) (.int .i64 a.mx)) ∧ Hid (a.ok wr [w1.heap.size]) ∧ Hid (Below w.heap.size w wr)) (fun iv _ => N - (RowKit.intOf iv).toNat)
  case atStart => exact ⟨0, ⟨2, ⟨#[97]⟩, none, 0, 0, 0, .nil⟩, rfl, Nat.zero_le _, Lib.hid rfl, Lib.hid (Bx.new w1 _ _ _ _ _ _), Lib.hid ⟨Nat.le_refl _, (show (0 : Nat) ≤ 9223372036854775807 by decide), trivial⟩, Lib.hid (HB1.out.alloc HB1.out.size _)⟩
  case round =>
    obtain ⟨q, a, rfl, hq, hf, hx, hok, hbel⟩ := hrel
    obtain ⟨n1, n2, n3, n4⟩ := tw_nd hf.out
    obtain ⟨d1, d2, d3, d4⟩ := tw_is 8 (by omega) q (by have := HN.out; omega)
    have hD2 := Lib.hid (show dp a.kids 1 = (q : Int) + 1 by rw [n1]; exact d1)
    have hd2 : dp a.kids 1 ≤ 40 := by rw [hD2.out]; have := HN.out; omega
    have Hd2 := Lib.hid hd2
    have HBD := Lib.hid n4
    have HP := Lib.hid hx.out.lt
    have HPW := Lib.hid HB1.out.size
    have hS2' := Lib.hid n2
    have hE' := Lib.hid (n3.trans d4)
    have hD1' := Lib.hid (show dp (a.fo .nil) 1 = (q : Int) + 1 + 1 by rw [hf.out]; exact d2)
    have hgt := Lib.hid d3
    obtain ⟨a0, a1, a2, a3, a4, _⟩ := hx.out
    clear n1 n2 n3 n4 d1 d2 d3 d4 hd2
    by_cases hlt : (q : Int) < N
    · have hq0 : (0 : Int) ≤ q := by omega
      have hw := IntWalk.i64_in ((q : Int) + 1 + 1) (by have := HN.out; omega)
      have hw0 := IntWalk.i64_in ((q : Int) + 1) (by have := HN.out; omega)
      obtain ⟨S2, hS2⟩ : ∃ S2, sizeF a.k a.kids a.mn a.mx = S2 := ⟨_, rfl⟩
      obtain ⟨S1, hS1⟩ : ∃ S1, sizeF 8 (a.fo .nil) 0 0 = S1 := ⟨_, rfl⟩
      have tS : decide (S1 ≤ S2) = false := decide_eq_false (by
        have e1 := (tw_nd (tw_up hf.out 0)).2.1
        have e2 : sizeF 8 (a.fo .nil) 0 0 = twS 8 (q + 1) := e1
        have := hgt.out
        rw [hS1] at e2
        have e3 := hS2'.out
        rw [hS2] at e3
        omega)
      have HS1 := Lib.hid hS1
      have HS2 := Lib.hid hS2
      clear hS1 hS2
      have hs1 : (wr.alloc (cells5 a.k a.l a.A a.kids.len a.c a.mn a.mx)).heap.size = wr.heap.size + 1 := by simp
      have HX := Lib.hid (fun (w' : World) (h : Below ((wr.alloc (cells5 a.k a.l a.A a.kids.len a.c a.mn a.mx)).alloc (cells5 8 ⟨#[]⟩ (some ⟨wr.heap.size, 0, none⟩) 1 1 0 0)).heap.size ((wr.alloc (cells5 a.k a.l a.A a.kids.len a.c a.mn a.mx)).alloc (cells5 8 ⟨#[]⟩ (some ⟨wr.heap.size, 0, none⟩) 1 1 0 0)) w') => ((hx.out.al (cells5 a.k a.l a.A a.kids.len a.c a.mn a.mx)).al (cells5 8 ⟨#[]⟩ (some ⟨wr.heap.size, 0, none⟩) 1 1 0 0)).below h)
      have HQ := Lib.hid (fun (w' : World) (h : Below ((wr.alloc (cells5 a.k a.l a.A a.kids.len a.c a.mn a.mx)).alloc (cells5 8 ⟨#[]⟩ (some ⟨wr.heap.size, 0, none⟩) 1 1 0 0)).heap.size ((wr.alloc (cells5 a.k a.l a.A a.kids.len a.c a.mn a.mx)).alloc (cells5 8 ⟨#[]⟩ (some ⟨wr.heap.size, 0, none⟩) 1 1 0 0)) w') => (show Bx w' (wr.heap.size + 1) (.int .i64 8) (.string ⟨#[]⟩) (.slice (some ⟨wr.heap.size, 0, none⟩) 1 1) (.int .i64 0) (.int .i64 0) from hs1 ▸ (Bx.new (wr.alloc (cells5 a.k a.l a.A a.kids.len a.c a.mn a.mx)) (.int .i64 8) (.string ⟨#[]⟩) (.slice (some ⟨wr.heap.size, 0, none⟩) 1 1) (.int .i64 0) (.int .i64 0) 27).below h))
      have HO := Lib.hid (fun (w' : World) (h : Below ((wr.alloc (cells5 a.k a.l a.A a.kids.len a.c a.mn a.mx)).alloc (cells5 8 ⟨#[]⟩ (some ⟨wr.heap.size, 0, none⟩) 1 1 0 0)).heap.size ((wr.alloc (cells5 a.k a.l a.A a.kids.len a.c a.mn a.mx)).alloc (cells5 8 ⟨#[]⟩ (some ⟨wr.heap.size, 0, none⟩) 1 1 0 0)) w') => (solo_ok 8 wr w1.heap.size HP.out hok.out).below h)
      have HA := Lib.hid (fun (w' : World) (h : Below ((wr.alloc (cells5 a.k a.l a.A a.kids.len a.c a.mn a.mx)).alloc (cells5 8 ⟨#[]⟩ (some ⟨wr.heap.size, 0, none⟩) 1 1 0 0)).heap.size ((wr.alloc (cells5 a.k a.l a.A a.kids.len a.c a.mn a.mx)).alloc (cells5 8 ⟨#[]⟩ (some ⟨wr.heap.size, 0, none⟩) 1 1 0 0)) w') => ((hok.out.al (cells5 a.k a.l a.A a.kids.len a.c a.mn a.mx)).al (cells5 8 ⟨#[]⟩ (some ⟨wr.heap.size, 0, none⟩) 1 1 0 0)).below h)
      have HS := Lib.hid (fun (w' : World) (h : Below ((wr.alloc (cells5 a.k a.l a.A a.kids.len a.c a.mn a.mx)).alloc (cells5 8 ⟨#[]⟩ (some ⟨wr.heap.size, 0, none⟩) 1 1 0 0)).heap.size ((wr.alloc (cells5 a.k a.l a.A a.kids.len a.c a.mn a.mx)).alloc (cells5 8 ⟨#[]⟩ (some ⟨wr.heap.size, 0, none⟩) 1 1 0 0)) w') => (⟨(HX.out w' h).c0, (HX.out w' h).c1, (HX.out w' h).c2, (HX.out w' h).c3, (HX.out w' h).c4, (HQ.out w' h).c0, (HQ.out w' h).c1, (HQ.out w' h).c2, (HQ.out w' h).c3, (HQ.out w' h).c4⟩ : w'.cell? ⟨w1.heap.size, 0, none⟩ = some (.int .i64 a.k) ∧ w'.cell? ⟨w1.heap.size, 1, none⟩ = some (.string a.l) ∧ w'.cell? ⟨w1.heap.size, 2, none⟩ = some (.slice a.A a.kids.len a.c) ∧ w'.cell? ⟨w1.heap.size, 3, none⟩ = some (.int .i64 a.mn) ∧ w'.cell? ⟨w1.heap.size, 4, none⟩ = some (.int .i64 a.mx) ∧ w'.cell? ⟨wr.heap.size + 1, 0, none⟩ = some (.int .i64 8) ∧ w'.cell? ⟨wr.heap.size + 1, 1, none⟩ = some (.string ⟨#[]⟩) ∧ w'.cell? ⟨wr.heap.size + 1, 2, none⟩ = some (.slice (some ⟨wr.heap.size, 0, none⟩) 1 1) ∧ w'.cell? ⟨wr.heap.size + 1, 3, none⟩ = some (.int .i64 0) ∧ w'.cell? ⟨wr.heap.size + 1, 4, none⟩ = some (.int .i64 0)))
      have HWW := Lib.hid ((hbel.out.alloc hbel.out.size (cells5 a.k a.l a.A a.kids.len a.c a.mn a.mx)).alloc (by have := hbel.out.size; simp; omega) (cells5 8 ⟨#[]⟩ (some ⟨wr.heap.size, 0, none⟩) 1 1 0 0))
      have HWZ := Lib.hid (show w.heap.size ≤ ((wr.alloc (cells5 a.k a.l a.A a.kids.len a.c a.mn a.mx)).alloc (cells5 8 ⟨#[]⟩ (some ⟨wr.heap.size, 0, none⟩) 1 1 0 0)).heap.size by have := hbel.out.size; simp; omega)
      clear hs1
      go_wp2_with fail
      clear a0 a1 a2 a3 a4
      have F1 := HS.out _ (Below.refl _ _)
      go_region_held3 (fun w' => w'.cell? ⟨w1.heap.size, 0, none⟩ = some (.int .i64 a.k) ∧ w'.cell? ⟨w1.heap.size, 1, none⟩ = some (.string a.l) ∧ w'.cell? ⟨w1.heap.size, 2, none⟩ = some (.slice a.A a.kids.len a.c) ∧ w'.cell? ⟨w1.heap.size, 3, none⟩ = some (.int .i64 a.mn) ∧ w'.cell? ⟨w1.heap.size, 4, none⟩ = some (.int .i64 a.mx) ∧ w'.cell? ⟨wr.heap.size + 1, 0, none⟩ = some (.int .i64 8) ∧ w'.cell? ⟨wr.heap.size + 1, 1, none⟩ = some (.string ⟨#[]⟩) ∧ w'.cell? ⟨wr.heap.size + 1, 2, none⟩ = some (.slice (some ⟨wr.heap.size, 0, none⟩) 1 1) ∧ w'.cell? ⟨wr.heap.size + 1, 3, none⟩ = some (.int .i64 0) ∧ w'.cell? ⟨wr.heap.size + 1, 4, none⟩ = some (.int .i64 0)) (first | exact F1) (first
        | (go_at_call 17; (with_reducible refine (deep_solo 8 wr.heap.size a [w1.heap.size] _ (HO.out _ (Below.refl _ _).drew) hD1').mono ?_); rintro e w2 ⟨rfl, hb2⟩; have HB2 := Lib.hid (below_go (Below.refl _ _).drew hb2); have F1 := HS.out _ HB2.out; clear hb2)
        | (go_at_call 17; (with_reducible refine (deep_is a [w1.heap.size] _ (HA.out _ HB2.out) hD2).mono ?_); rintro e w3 ⟨rfl, hb3⟩; have HB2 := Lib.hid (below_go HB2.out hb3); have F1 := HS.out _ HB2.out; clear hb3)
        | (go_at_call 18; (with_reducible refine (size_solo 8 wr.heap.size a [w1.heap.size] _ (HO.out _ HB2.out) (bd_solo HBD.out _ _) (by rw [hD1'.out]; have := HN.out; omega) HS1).mono ?_); rintro e w4 ⟨rfl, hb4⟩; have HB2 := Lib.hid (below_go HB2.out hb4); have F1 := HS.out _ HB2.out; clear hb4)
        | (go_at_call 18; (with_reducible refine (size_is a [w1.heap.size] _ (HA.out _ HB2.out) HBD.out Hd2.out HS2).mono ?_); rintro e w5 ⟨rfl, hb5⟩; have HB2 := Lib.hid (below_go HB2.out hb5); have F1 := HS.out _ HB2.out; clear hb5))
      all_goals
        have HXX := Lib.hid (HX.out _ HB2.out)
        have HOO := Lib.hid (HO.out _ HB2.out)
        have HB3 := Lib.hid (HWW.out.trans (HB2.out.mono HWZ.out))
        obtain ⟨x0, x1, x2, x3, x4, f0, f1, f2, f3, f4⟩ := HXX.out
        obtain ⟨_, _, _, _, _, y0, y1, y2, y3, y4⟩ := F1
        go_wp2_with fail
        exact ⟨⟨q + 1, solo 8 wr.heap.size a, by go_num, by omega, Lib.hid (tw_up hf.out _), Lib.hid HXX.out.w5, Lib.hid (HOO.out.w5 (by simp)), Lib.hid (((((HB3.out.setCell HPW.out _).setCell HPW.out _).setCell HPW.out _).setCell HPW.out _).setCell HPW.out _)⟩, by simp [RowKit.intOf]; omega⟩
    · have hqN : q = N := by omega
      subst hqN
      have LL := Lib.hid (hL0.out.below hbel.out)
      have BB := hbel
      have HX := hx
      have HO := hok
      have HE := Lib.hid (hE'.out.trans HEE.out)
      obtain ⟨T, hT⟩ : ∃ T, textT a.k a.l a.kids a.mn a.mx = T := ⟨_, rfl⟩
      have HT := Lib.hid hT
      have hne : T ≠ [] := fun e => textT_ne.1 (hT.trans e) HE.out
      have te : (T == []) = false := by cases T with | nil => exact absurd rfl hne | cons => rfl
      have te2 : T.isEmpty = false := by cases T with | nil => exact absurd rfl hne | cons => rfl
      clear hT hne
      obtain ⟨S2, hS2⟩ : ∃ S2, sizeF a.k a.kids a.mn a.mx = S2 := ⟨_, rfl⟩
      have tS : decide (S2 > 60) = false := decide_eq_false (by have e1 := hS2'.out; have e2 := HSS.out; rw [hS2] at e1; omega)
      have HS2 := Lib.hid hS2
      clear hS2
      go_wp2_with (first
        | (go_at_call 18; (with_reducible refine (size_is a [w1.heap.size] _ HO.out HBD.out Hd2.out HS2).mono ?_); rintro e w2 ⟨rfl, hb2⟩; have HX := Lib.hid (HX.out.below hb2); have HO := Lib.hid (HO.out.below hb2); have BB := Lib.hid (below_go BB.out hb2); have LL := Lib.hid (hL0.out.below BB.out); clear hb2; obtain ⟨a0, a1, a2, a3, a4, _⟩ := HX.out)
        | (go_at_call 11; (with_reducible refine (checkX a [w1.heap.size] _ HO.out HBD.out HE).mono ?_); rintro e w3 ⟨rfl, hb3⟩; have HX := Lib.hid (HX.out.below hb3); have HO := Lib.hid (HO.out.below hb3); have BB := Lib.hid (below_go BB.out hb3); have LL := Lib.hid (hL0.out.below BB.out); clear hb3; obtain ⟨a0, a1, a2, a3, a4, _⟩ := HX.out)
        | (go_at_call 12; (with_reducible refine (textX a [w1.heap.size] _ HO.out HBD.out HT).mono ?_); rintro e w4 ⟨rfl, hb4⟩; have HX := Lib.hid (HX.out.below hb4); have HO := Lib.hid (HO.out.below hb4); have BB := Lib.hid (below_go BB.out hb4); have LL := Lib.hid (hL0.out.below BB.out); clear hb4; obtain ⟨a0, a1, a2, a3, a4, _⟩ := HX.out)
        | (go_at_call 8; (with_reducible refine (awake_any _ LL.out).mono ?_); rintro e wz ⟨rfl, hbz⟩))
      go_ret
      exact ⟨rfl, below_go BB.out hbz⟩
theorem pathGrows_law (n k : Int) (w : World) (hG : ErG w) : Calls Tryd.prog 6 #[.int .i64 n, .int .i64 k] w fun e w' => e = .returned (.bool true) ∧ Below w.heap.size w w' := by
  by_cases hn : n < 0 ∨ 30 < n
  · exact grows_out n k w hG hn
  · obtain ⟨N, rfl⟩ : ∃ N : Nat, n = N := ⟨n.toNat, by omega⟩
    have hN : N ≤ 30 := by omega
    rcases rnd3_is k with hk | hk | hk
    · by_cases h : 20 ≤ N
      · exact grows_00 N k w hG hN (Lib.hid hk) h
      · by_cases hS : 60 < twS 6 N
        · exact grows_01 N k w hG hN (Lib.hid hk) (by omega) hS
        · exact grows_02 N k w hG hN (Lib.hid hk) (by omega) hS
    · by_cases h : 20 ≤ N
      · exact grows_10 N k w hG hN (Lib.hid hk) h
      · by_cases hS : 60 < twS 7 N
        · exact grows_11 N k w hG hN (Lib.hid hk) (by omega) hS
        · exact grows_12 N k w hG hN (Lib.hid hk) (by omega) hS
    · by_cases h : 20 ≤ N
      · exact grows_20 N k w hG hN (Lib.hid hk) h
      · by_cases hS : 60 < twS 8 N
        · exact grows_21 N k w hG hN (Lib.hid hk) (by omega) hS
        · exact grows_22 N k w hG hN (Lib.hid hk) (by omega) hS
end Go.Proofs.YthbodojhddmbhaaDoor.Pa
