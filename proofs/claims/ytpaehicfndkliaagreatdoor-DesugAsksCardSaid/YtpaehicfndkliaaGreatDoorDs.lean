import Derived.Test.YtpaehicfndkliaaGreatDoorDc
import Derived.LoopTactic

/- The walks of 'Sum', 'Weight', 'small'. Condition: the tree can be read. -/
namespace Go.Proofs.YtpaehicfndkliaaGreatDoor.De
open Go.RowKit Go.Lib Na Go.PN Pa

set_option maxRecDepth 100000 in
set_option maxHeartbeats 4000000 in
/-- A sum of one number and another one, held. -/
theorem sum1 (n x : Int) (b : Nat) (w : World) (hn : 0 ≤ n ∧ n ≤ (1099511627776 : Int)) (hx : 0 ≤ x ∧ x ≤ 9223372036854775807) (hc : w.cell? ⟨b, 0, none⟩ = some (.int .i64 x)) :
    Calls Tryz.prog 57 #[.int .i64 n, .slice (some ⟨b, 0, none⟩) 1 1] w fun e w' => (∃ m : Int, e = .returned (.int .i64 m) ∧ 0 ≤ m ∧ m ≤ (1099511627776 : Int) ∧ (m < 10000 → m = n + x)) ∧ w' = w := by
  obtain ⟨hn1, hn2⟩ := hn
  obtain ⟨hx1, hx2⟩ := hx
  have t1 : decide (n > (1099511627776 : Int)) = false := decide_eq_false (by omega)
  by_cases hs : (1099511627776 : Int) - n < x
  · have t2 : decide (x > (1099511627776 : Int) - n) = true := decide_eq_true hs
    have hm := Lib.hid (show (0 : Int) ≤ 1099511627776 ∧ (1099511627776 : Int) ≤ 1099511627776 ∧ ((1099511627776 : Int) < 10000 → (1099511627776 : Int) = n + x) from ⟨by decide, by decide, fun h => absurd h (by decide)⟩)
    clear hs
    go_enter Tryz.func57, Tryz.ntmps57
    go_wp2_with fail
    go_loop [0, 5] (fun nv iv => iv = .int .i64 0 ∧ nv = .int .i64 n) (fun _ _ => 0)
    case atStart => exact ⟨rfl, rfl⟩
    case round =>
      obtain ⟨rfl, rfl⟩ := hrel
      go_wp2_with fail
      go_ret
      exact ⟨⟨_, rfl, hm.out⟩, rfl⟩
  · have t2 : decide (x > (1099511627776 : Int) - n) = false := decide_eq_false hs
    have hm := Lib.hid (show 0 ≤ n + x ∧ n + x ≤ (1099511627776 : Int) ∧ (n + x < 10000 → n + x = n + x) from ⟨by omega, by omega, fun _ => rfl⟩)
    have hm2 : n + x ≤ (1099511627776 : Int) := by omega
    clear hs
    go_enter Tryz.func57, Tryz.ntmps57
    go_wp2_with fail
    go_loop [0, 5] (fun nv iv => (iv = .int .i64 0 ∧ nv = .int .i64 n) ∨ (iv = .int .i64 1 ∧ nv = .int .i64 (n + x))) (fun _ iv => 1 - (RowKit.intOf iv).toNat)
    case atStart => exact Or.inl ⟨rfl, rfl⟩
    case round =>
      rcases hrel with ⟨rfl, rfl⟩ | ⟨rfl, rfl⟩
      · go_wp2_with fail
        go_round
        case rel => exact Or.inr ⟨rfl, rfl⟩
        case measure => simp [RowKit.intOf]
      · go_wp2_with fail
        go_ret
        exact ⟨⟨_, rfl, hm.out.1, hm.out.2.1, fun _ => rfl⟩, rfl⟩
/-- The labels of a row's paths are texts of the machine. -/
def Lb : Fo → Prop
  | .nil => True
  | .cons _ l d _ _ r => l.size ≤ 9223372036854775807 ∧ Lb d ∧ Lb r
theorem Lb.app {f g : Fo} (h : Lb (f.app g)) : Lb g := by
  induction f with
  | nil => exact h
  | cons k l d mn mx r _ ih => exact ih h.2.2
/-- How heavy a row is. -/
def wgt : Fo → Int
  | .nil => 0
  | .cons _ l d _ _ r => 1 + l.size + wgt d + wgt r
theorem wgt_app (f g : Fo) : wgt (f.app g) = wgt f + wgt g := by
  induction f with
  | nil => simp [wgt, Fo.app]
  | cons k l d mn mx r _ ih => rw [Fo.app, wgt, wgt, ih]; omega
theorem wgt_one (k : Int) (l : ByteArray) (d : Fo) (mn mx : Int) : wgt (.cons k l d mn mx .nil) = 1 + l.size + wgt d := by rw [wgt, wgt]; omega
theorem sz_wgt (f : Fo) : (f.sz : Int) ≤ wgt f := by
  induction f with
  | nil => exact Int.le_refl _
  | cons k l d mn mx r ih1 ih2 => rw [wgt, Fo.sz]; omega
theorem wgt_step {m z y b : Int} {dn : Fo} {k1 : Int} {l1 : ByteArray} {d1 : Fo} {mn1 mx1 : Int} (h : y < 10000) (h0 : 0 ≤ m) (hm : m < 10000 → m = b + wgt dn) (hz : z < 10000 → z = wgt (.cons k1 l1 d1 mn1 mx1 .nil)) (hy : y < 10000 → y = m + z) : y = b + wgt (dn.app (.cons k1 l1 d1 mn1 mx1 .nil)) := by
  have h1 := hy h
  have hz0 := sz_wgt (.cons k1 l1 d1 mn1 mx1 .nil)
  have hz1 : z < 10000 := by omega
  have h2 := hz hz1
  have h3 : m < 10000 := by omega
  have h4 := hm h3
  rw [wgt_app]
  omega
set_option maxRecDepth 100000 in
set_option maxHeartbeats 8000000 in
theorem weight_n (n : Nat) : ∀ (a : Nd) (X : List Nat) (at_ : Int) (w : World), a.kids.sz < n → a.ok w X → Lb (a.fo .nil) → 0 ≤ at_ → at_ ≤ 61 →
    Calls Tryz.prog 28 #[a.v, .int .i64 at_] w fun e w' => (∃ m : Int, e = .returned (.int .i64 m) ∧ 0 ≤ m ∧ m ≤ (1099511627776 : Int) ∧ (m < 10000 → m = wgt (a.fo .nil))) ∧ Below w.heap.size w w' := by
  induction n with
  | zero => intro a X at_ w hn; omega
  | succ n ih =>
    intro a X at_ w hn hok hlb h0 h61
    obtain ⟨k, l, A, c, mn, mx, kids⟩ := a
    obtain ⟨hc, hc2, hat⟩ := hok
    unfold Nd.v Nd.fo at *
    simp only at hn hc hc2 hat hlb ⊢
    rw [wgt_one]
    have hl := hlb.1
    have HLB := Lib.hid hlb.2.1
    have HB0 := Lib.hid (show Below (w.heap.size + 1) (w.alloc (obj5 k l A kids.len c mn mx)) ((w.alloc (obj5 k l A kids.len c mn mx)).alloc (.cells #[.int .i64 l.size] 3)) from (Below.refl _ _).alloc (by simp) _)
    have HW := Lib.hid ((Below.refl _ w).alloc (Nat.le_refl _) (obj5 k l A kids.len c mn mx))
    have HS1 := Lib.hid (sum1 1 (l.size : Int) (w.heap.size + 1) ((w.alloc (obj5 k l A kids.len c mn mx)).alloc (.cells #[.int .i64 l.size] 3)) (by decide) (by omega) (by go_simp))
    have HN := Lib.hid hn
    have HA := Lib.hid hat
    have IH := Lib.hid ih
    have hl0 : (0 : Int) ≤ (l.size : Int) := by omega
    clear hat hn ih hlb
    by_cases h60 : 60 < at_
    · have t60 : decide (at_ > 60) = true := decide_eq_true h60
      have hm := Lib.hid (show (0 : Int) ≤ 1099511627776 ∧ (1099511627776 : Int) ≤ 1099511627776 ∧ ((1099511627776 : Int) < 10000 → (1099511627776 : Int) = 1 + l.size + wgt kids) from ⟨by decide, by decide, fun h => absurd h (by decide)⟩)
      go_enter Tryz.func28, Tryz.ntmps28
      go_wp2_with (go_at_call 57; (with_reducible refine (HS1.out).mono ?_); rintro e w1 ⟨⟨m, rfl, hm1, hm2, hm3⟩, rfl⟩)
      go_ret
      exact ⟨⟨_, rfl, hm.out⟩, box_below HB0.out⟩
    · have t60 : decide (at_ > 60) = false := decide_eq_false h60
      go_enter Tryz.func28, Tryz.ntmps28
      go_wp2_with (go_at_call 57; (with_reducible refine (HS1.out).mono ?_); rintro e w1 ⟨⟨m0, rfl, hm1, hm2, hm9⟩, hw1⟩; have HM0 := Lib.hid hm9; clear hm9; have HW1 := Lib.hid (show Below (w.heap.size + 1) (w.alloc (obj5 k l A kids.len c mn mx)) w1 from hw1 ▸ HB0.out); clear hw1)
      go_loopw [5, 6] (fun nv iv wr => ∃ (q : Nat) (dn r : Fo) (m : Int), Hid (kids = dn.app r) ∧ Hid (dn.len = q) ∧ iv = .int .i64 q ∧ nv = .int .i64 m ∧ 0 ≤ m ∧ m ≤ (1099511627776 : Int) ∧ Hid (m < 10000 → m = 1 + l.size + wgt dn) ∧ Hid (Below (w.heap.size + 1) (w.alloc (obj5 k l A kids.len c mn mx)) wr)) (fun _ iv _ => kids.len - (RowKit.intOf iv).toNat)
      case atStart => exact ⟨0, .nil, kids, m0, Lib.hid rfl, Lib.hid rfl, rfl, rfl, hm1, hm2, Lib.hid (fun h => by rw [HM0.out h, wgt]; omega), HW1⟩
      case round =>
        obtain ⟨q, dn, r, m, hk, hq, rfl, rfl, hm3, hm4, HM, HB⟩ := hrel
        have hlen := Lib.hid (show kids.len = q + r.len by rw [hk.out, Fo.app_len, hq.out])
        have hb0 := box_below HB.out
        have HB1 := Lib.hid hb0
        obtain ⟨hx0, hx1, hx2, hx3, hx4⟩ := box_cells _ _ _ _ _ _ _ HB.out
        clear hx0 hx1 hx3 hx4 hb0
        have hws := Lib.hid (show w.heap.size + 1 ≤ wr.heap.size by have := HB.out.size; simpa using this)
        cases r with
        | nil =>
          have hlt : ¬ (q : Int) < kids.len := by have := hlen.out; simp only [Fo.len] at this; omega
          have hlt2 : decide (q < kids.len) = false := decide_eq_false (by omega)
          have hdk : dn = kids := by have := hk.out; rw [Fo.app_nil] at this; exact this.symm
          have hm := Lib.hid (show 0 ≤ m ∧ m ≤ (1099511627776 : Int) ∧ (m < 10000 → m = 1 + l.size + wgt kids) from ⟨hm3, hm4, fun h => by rw [← hdk]; exact HM.out h⟩)
          clear hdk
          go_wp2_with fail
          go_ret
          exact ⟨⟨_, rfl, hm.out⟩, HB1.out⟩
        | cons k1 l1 d1 mn1 mx1 r1 =>
          have hlt : (q : Int) < kids.len := by have := hlen.out; simp only [Fo.len] at this; omega
          have hlt2 : decide (q < kids.len) = true := decide_eq_true (by omega)
          by_cases hbig : m < 10000
          · have tb : decide (m < 10000) = true := decide_eq_true hbig
            have hq0 : (0 : Int) ≤ q := by omega
            obtain ⟨b0, o0, hA0⟩ := Nd.first (a := ⟨0, l, A, c, mn, mx, kids⟩) HA.out hk.out
            simp only at hA0
            subst hA0
            have h3 := HA.out.below HB1.out
            rw [hk.out] at h3
            obtain ⟨K1, c1, hcel, hc3, hc4, hat1⟩ := h3.nth hq.out
            have hcel1 := hcel.1
            have hcel2 := hcel.2.1
            have hcel3 := hcel.2.2.1
            have hcel4 := hcel.2.2.2.1
            have hcel5 := hcel.2.2.2.2
            have hsz : d1.sz < n := by
              have h5 := congrArg Fo.sz hk.out
              rw [Fo.app_sz] at h5
              have h6 := HN.out
              simp only [Fo.sz] at h5
              omega
            have hlb1 : Lb (.cons k1 l1 d1 mn1 mx1 .nil) := by
              have h5 := HLB.out
              rw [hk.out] at h5
              have h6 := Lb.app h5
              exact ⟨h6.1, h6.2.1, trivial⟩
            have HC := Lib.hid (IH.out ⟨k1, l1, K1, c1, mn1, mx1, d1⟩ X (at_ + 1) wr hsz ⟨hc3, hc4, hat1⟩ hlb1 (by omega) (by omega))
            unfold Nd.v at HC
            simp only at HC
            have hkk := Lib.hid (show kids = (dn.app (.cons k1 l1 d1 mn1 mx1 .nil)).app r1 by rw [hk.out, Fo.app_assoc]; rfl)
            have hqq := Lib.hid (show (dn.app (.cons k1 l1 d1 mn1 mx1 .nil)).len = q + 1 by rw [Fo.app_len, hq.out]; rfl)
            clear hsz hat1 hcel h3 hlb1
            go_wp2_with (first
              | (go_at_call 28; (with_reducible refine (HC.out).mono ?_); rintro e w2 ⟨⟨z, rfl, hz1, hz2, hz3⟩, hb2⟩; have HZ3 := Lib.hid hz3; clear hz3; have HB2 := Lib.hid (HB.out.trans (hb2.mono hws.out)); have hw2 := Lib.hid (Nat.le_trans hws.out hb2.size); have HSS := Lib.hid (sum1 m z w2.heap.size (w2.alloc (.cells #[.int .i64 z] 3)) ⟨hm3, hm4⟩ ⟨hz1, by omega⟩ (by go_simp)); clear hb2)
              | (go_at_call 57; (with_reducible refine (HSS.out).mono ?_); rintro e w3 ⟨⟨y, rfl, hy1, hy2, hy3⟩, hw3⟩; have HY3 := Lib.hid hy3; clear hy3; have HB3 := Lib.hid (show Below (w.heap.size + 1) (w.alloc (obj5 k l _ kids.len c mn mx)) w3 from hw3 ▸ HB2.out.alloc hw2.out _); clear hw3))
            exact ⟨⟨q + 1, _, r1, y, hkk, hqq, by go_num, rfl, hy1, hy2, Lib.hid (fun h => wgt_step h hm3 HM.out HZ3.out HY3.out), HB3⟩, by simp [RowKit.intOf]; omega⟩
          · have tb : decide (m < 10000) = false := decide_eq_false hbig
            have hm := Lib.hid (show 0 ≤ m ∧ m ≤ (1099511627776 : Int) ∧ (m < 10000 → m = 1 + l.size + wgt kids) from ⟨hm3, hm4, fun h => absurd h hbig⟩)
            go_wp2_with fail
            go_ret
            exact ⟨⟨_, rfl, hm.out⟩, HB1.out⟩
end Go.Proofs.YtpaehicfndkliaaGreatDoor.De


/- The walk of 'small'. Condition: the path can be read. -/
namespace Go.Proofs.YtpaehicfndkliaaGreatDoor.De
open Go.RowKit Go.Lib Na Go.PN Pa

set_option maxRecDepth 100000 in
set_option maxHeartbeats 4000000 in
theorem small_wgt (a : Nd) (X : List Nat) (w : World) (h : a.ok w X) (hl : Lb (a.fo .nil)) : Calls Tryz.prog 7 #[a.v] w fun e w' => (∃ B : Bool, e = .returned (.bool B) ∧ (B = true → wgt (a.fo .nil) ≤ 300)) ∧ Below w.heap.size w w' := by
  have HC := Lib.hid (weight_n (a.kids.sz + 1) a X 0 (w.alloc (obj5 a.k a.l a.A a.kids.len a.c a.mn a.mx)) (by omega) (h.al _) hl (by omega) (by omega))
  have HB1 := Lib.hid ((Below.refl _ w).alloc (Nat.le_refl _) (obj5 a.k a.l a.A a.kids.len a.c a.mn a.mx))
  generalize wgt (a.fo .nil) = g at *
  obtain ⟨k, l, A, c, mn, mx, kids⟩ := a
  clear h hl
  unfold Nd.v at *
  simp only at HC HB1 ⊢
  go_enter Tryz.func7, Tryz.ntmps7
  go_wp2_with (go_at_call 28; (with_reducible refine (HC.out).mono ?_); rintro e w2 ⟨⟨z, rfl, hz1, hz2, hz3⟩, hb2⟩; have HB2 := Lib.hid (HB1.out.trans (hb2.mono HB1.out.size)); have HZ := Lib.hid hz3; clear hz3 hb2)
  go_ret
  refine ⟨⟨_, rfl, fun h => ?_⟩, HB2.out⟩
  have h1 : z ≤ 300 := by simpa using h
  rw [← HZ.out (by omega)]
  exact h1
theorem small_any (a : Nd) (X : List Nat) (w : World) (h : a.ok w X) (hl : Lb (a.fo .nil)) : Calls Tryz.prog 7 #[a.v] w fun e w' => (∃ B : Bool, e = .returned (.bool B)) ∧ Below w.heap.size w w' :=
  (small_wgt a X w h hl).mono fun e w' ⟨⟨B, h1, _⟩, h2⟩ => ⟨⟨B, h1⟩, h2⟩
end Go.Proofs.YtpaehicfndkliaaGreatDoor.De
