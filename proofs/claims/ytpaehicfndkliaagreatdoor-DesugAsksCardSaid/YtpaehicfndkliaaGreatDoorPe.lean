
/- The walks of 'kids', 'named', 'one', 'all'. Condition: the tree can be read. -/
import Derived.Test.YtpaehicfndkliaaGreatDoorPd
import Derived.OwnWalk
namespace Go.Proofs.YtpaehicfndkliaaGreatDoor.Pa
open Go.RowKit Go.Lib Na Go.PN

def leastI (k : Int) : Int := if k = 1 ∨ k = 2 ∨ k = 3 then 0 else if k = 4 ∨ k = 5 then 2 else if k = 6 ∨ k = 7 ∨ k = 8 ∨ k = 9 then 1 else 0
def mostI (k : Int) : Int := if k = 1 ∨ k = 2 ∨ k = 3 then 0 else if k = 4 ∨ k = 5 then 1099511627776 else if k = 6 ∨ k = 7 ∨ k = 8 ∨ k = 9 then 1 else 0
def kindB (k : Int) : Bool := decide (1 ≤ k) && decide (k ≤ 9)
/-- No path of a row has this kind. -/
def noneK (k : Int) : Fo → Bool
  | .nil => true
  | .cons k1 _ _ _ _ r => !(k1 == k) && noneK k r
def namedB (l : ByteArray) : Bool := decide (0 < l.size) && decide (l.size ≤ 20)
def repB (mn mx : Int) : Bool := decide (mn < 0) || decide (8 < mn) || (!(mx == -1) && (decide (mx < mn) || decide (mx < 1) || decide (8 < mx)))
/-- Why a path may not be, but for its kids. -/
def oneE (k : Int) (l : ByteArray) (d : Fo) (mn mx : Int) : Int :=
  if !kindB k || decide ((d.len : Int) < leastI k) || decide (mostI k < (d.len : Int)) then 1
  else if (k == 4 || k == 5) && !noneK k d then 1
  else if k == 2 || k == 3 then (if namedB l then 0 else 2)
  else if k == 9 then (if repB mn mx then 1 else 0) else 0
/-- Why a row's paths may not be, where it was e so far. -/
def alL : Fo → Int → Int
  | .nil, e => e
  | .cons k l d mn mx r, e => if e = 0 then alL r (alL d (oneE k l d mn mx)) else e
def allE (k : Int) (l : ByteArray) (d : Fo) (mn mx : Int) : Int := alL d (oneE k l d mn mx)
theorem alL_cons (k : Int) (l : ByteArray) (d : Fo) (mn mx : Int) (r : Fo) (e : Int) : alL (.cons k l d mn mx r) e = if e = 0 then alL r (allE k l d mn mx) else e := rfl
theorem alL_ne (f : Fo) (e : Int) (h : e ≠ 0) : alL f e = e := by
  cases f with
  | nil => rfl
  | cons => rw [alL_cons, if_neg h]
theorem noneK_app (k : Int) (f g : Fo) : noneK k (f.app g) = (noneK k f && noneK k g) := by
  induction f with
  | nil => rfl
  | cons k1 l d mn mx r _ ih => rw [Fo.app, noneK, noneK, ih, Bool.and_assoc]
theorem named_any (l : ByteArray) (w : World) : Calls Tryz.prog 105 #[.string l] w fun e w' => e = .returned (.bool (namedB l)) ∧ w' = w := by
  rcases (show l.size = 0 ∨ (0 < l.size ∧ l.size ≤ 20) ∨ 20 < l.size from by omega) with h | ⟨h, h2⟩ | h
  · have hB := Lib.hid (show namedB l = false by simp [namedB, h])
    have t1 : decide ((l.size : Int) > 0) = false := decide_eq_false (by omega)
    go_enter Tryz.func105, Tryz.ntmps105
    go_wp2
    go_ret
    exact ⟨by rw [hB.out]; rfl, rfl⟩
  · have hB := Lib.hid (show namedB l = true by simp [namedB, h, h2])
    have t1 : decide ((l.size : Int) > 0) = true := decide_eq_true (by omega)
    have t2 : decide ((l.size : Int) ≤ 20) = true := decide_eq_true (by omega)
    go_enter Tryz.func105, Tryz.ntmps105
    go_wp2
    go_ret
    exact ⟨by rw [hB.out]; rfl, rfl⟩
  · have hB := Lib.hid (show namedB l = false by simp [namedB]; omega)
    have t1 : decide ((l.size : Int) > 0) = true := decide_eq_true (by omega)
    have t2 : decide ((l.size : Int) ≤ 20) = false := decide_eq_false (by omega)
    go_enter Tryz.func105, Tryz.ntmps105
    go_wp2
    go_ret
    exact ⟨by rw [hB.out]; rfl, rfl⟩
theorem kids_any (k : Int) (w : World) : Calls Tryz.prog 104 #[.int .i64 k] w fun e w' => e = .returned (.tuple #[.int .i64 (leastI k), .int .i64 (mostI k), .bool (kindB k)]) ∧ w' = w := by
  rcases (show k = 1 ∨ k = 2 ∨ k = 3 ∨ k = 4 ∨ k = 5 ∨ k = 6 ∨ k = 7 ∨ k = 8 ∨ k = 9 ∨ (k < 1 ∨ 9 < k) from by omega) with rfl | rfl | rfl | rfl | rfl | rfl | rfl | rfl | rfl | h
  · go_enter Tryz.func104, Tryz.ntmps104
    go_wp2
    go_ret3
    exact ⟨rfl, rfl⟩
  · go_enter Tryz.func104, Tryz.ntmps104
    go_wp2
    go_ret3
    exact ⟨rfl, rfl⟩
  · go_enter Tryz.func104, Tryz.ntmps104
    go_wp2
    go_ret3
    exact ⟨rfl, rfl⟩
  · go_enter Tryz.func104, Tryz.ntmps104
    go_wp2
    go_ret3
    exact ⟨rfl, rfl⟩
  · go_enter Tryz.func104, Tryz.ntmps104
    go_wp2
    go_ret3
    exact ⟨rfl, rfl⟩
  · go_enter Tryz.func104, Tryz.ntmps104
    go_wp2
    go_ret3
    exact ⟨rfl, rfl⟩
  · go_enter Tryz.func104, Tryz.ntmps104
    go_wp2
    go_ret3
    exact ⟨rfl, rfl⟩
  · go_enter Tryz.func104, Tryz.ntmps104
    go_wp2
    go_ret3
    exact ⟨rfl, rfl⟩
  · go_enter Tryz.func104, Tryz.ntmps104
    go_wp2
    go_ret3
    exact ⟨rfl, rfl⟩
  · have hE := Lib.hid (show leastI k = 0 ∧ mostI k = 0 ∧ kindB k = false from ⟨by unfold leastI; rw [if_neg (by omega), if_neg (by omega), if_neg (by omega)], by unfold mostI; rw [if_neg (by omega), if_neg (by omega), if_neg (by omega)], by simp [kindB]; omega⟩)
    have t1 : (k == 1) = false := by rw [beq_eq_false_iff_ne]; omega
    have t2 : (k == 2) = false := by rw [beq_eq_false_iff_ne]; omega
    have t3 : (k == 3) = false := by rw [beq_eq_false_iff_ne]; omega
    have t4 : (k == 4) = false := by rw [beq_eq_false_iff_ne]; omega
    have t5 : (k == 5) = false := by rw [beq_eq_false_iff_ne]; omega
    have t6 : (k == 6) = false := by rw [beq_eq_false_iff_ne]; omega
    have t7 : (k == 7) = false := by rw [beq_eq_false_iff_ne]; omega
    have t8 : (k == 8) = false := by rw [beq_eq_false_iff_ne]; omega
    have t9 : (k == 9) = false := by rw [beq_eq_false_iff_ne]; omega
    clear h
    go_enter Tryz.func104, Tryz.ntmps104
    go_wp2
    go_ret3
    exact ⟨by rw [hE.out.1, hE.out.2.1, hE.out.2.2]; rfl, rfl⟩
theorem Nd.first {a : Nd} {w : World} {X : List Nat} {dn r : Fo} {k l d mn mx} (h : At w X a.kids a.A) (hk : a.kids = dn.app (.cons k l d mn mx r)) : ∃ b0 o0, a.A = some ⟨b0, o0, none⟩ := by
  rw [hk] at h
  cases dn with
  | nil => obtain ⟨b, o, K, c, e, _⟩ := h; exact ⟨b, o, e⟩
  | cons => obtain ⟨b, o, K, c, e, _⟩ := h; exact ⟨b, o, e⟩
theorem one_few (a : Nd) (w : World) (hT : kindB a.k = false ∨ (a.kids.len : Int) < leastI a.k ∨ mostI a.k < (a.kids.len : Int)) :
    Calls Tryz.prog 84 #[a.v] w fun e w' => e = .returned (.int .i64 (oneE a.k a.l a.kids a.mn a.mx)) ∧ Below w.heap.size w w' := by
  obtain ⟨k, l, A, c, mn, mx, kids⟩ := a
  unfold Nd.v
  simp only at hT ⊢
  have HE := Lib.hid (show oneE k l kids mn mx = 1 by
    unfold oneE
    rw [if_pos]
    rcases hT with h | h | h <;> simp [h])
  have HB1 := Lib.hid (fun o => (Below.refl _ w).alloc (Nat.le_refl _) o)
  have HC := Lib.hid (fun w => kids_any k w)
  generalize kindB k = B at *
  generalize leastI k = L at *
  generalize mostI k = M at *
  generalize kids.len = q at *
  cases B
  · clear hT
    go_enter Tryz.func84, Tryz.ntmps84
    go_wp2_with (go_at_call 104; (with_reducible refine (HC.out _).mono ?_); rintro e w2 ⟨rfl, rfl⟩)
    go_ret
    exact ⟨by rw [HE.out]; rfl, HB1.out _⟩
  · by_cases h1 : (q : Int) < L
    · have t1 : decide ((q : Int) < L) = true := decide_eq_true h1
      clear hT
      go_enter Tryz.func84, Tryz.ntmps84
      go_wp2_with (go_at_call 104; (with_reducible refine (HC.out _).mono ?_); rintro e w2 ⟨rfl, rfl⟩)
      go_ret
      exact ⟨by rw [HE.out]; rfl, HB1.out _⟩
    · have h2 : (q : Int) > M := by rcases hT with h | h | h; cases h; omega; exact h
      have t1 : decide ((q : Int) < L) = false := decide_eq_false h1
      have t2 : decide ((q : Int) > M) = true := decide_eq_true h2
      clear hT
      go_enter Tryz.func84, Tryz.ntmps84
      go_wp2_with (go_at_call 104; (with_reducible refine (HC.out _).mono ?_); rintro e w2 ⟨rfl, rfl⟩)
      go_ret
      exact ⟨by rw [HE.out]; rfl, HB1.out _⟩
set_option maxRecDepth 100000 in
set_option maxHeartbeats 4000000 in
theorem one_1 (l : ByteArray) (A : Option Addr) (c : Nat) (mn mx : Int) (kids : Fo) (X : List Nat) (w : World) (hc : kids.len ≤ c) (hc2 : c ≤ 9223372036854775807) (hat : At w X kids A) (hL : leastI 1 ≤ (kids.len : Int)) (hM : (kids.len : Int) ≤ mostI 1) :
    Calls Tryz.prog 84 #[.agg #[.int .i64 1, .string l, .slice A kids.len c, .int .i64 mn, .int .i64 mx]] w fun e w' => e = .returned (.int .i64 (oneE 1 l kids mn mx)) ∧ Below w.heap.size w w' := by
  have HC := Lib.hid (fun w => kids_any 1 w)
  have HB1 := Lib.hid (fun (w : World) o => (Below.refl _ w).alloc (Nat.le_refl _) o)
  have HA := Lib.hid hat
  have tl : decide ((kids.len : Int) < leastI 1) = false := decide_eq_false (by omega)
  have tm : decide ((kids.len : Int) > mostI 1) = false := decide_eq_false (by omega)
  have HE := Lib.hid (show oneE 1 l kids mn mx = if (1 == 4 || 1 == 5) && !noneK 1 kids then 1 else 0 by
    unfold oneE
    rw [if_neg (by simp [kindB]; omega)]
    rfl)
  have hkb : kindB 1 = true := rfl
  rw [hkb] at HC
  clear hat hL hM hkb
  generalize leastI 1 = L at *
  generalize mostI 1 = M at *
  go_enter Tryz.func84, Tryz.ntmps84
  go_wp2_with (go_at_call 104; (with_reducible refine (HC.out _).mono ?_); rintro e w2 ⟨rfl, rfl⟩)
  go_loopw [34] (fun iv wr => ∃ (q : Nat) (dn r : Fo), Hid (kids = dn.app r) ∧ Hid (dn.len = q) ∧ iv = .int .i64 q ∧ Hid True ∧ Below (w.heap.size + 1) (w.alloc (.cells #[.int .i64 1, .string l, .slice A kids.len c, .int .i64 mn, .int .i64 mx] 24)) wr) (fun iv _ => kids.len - (RowKit.intOf iv).toNat)
  case atStart => exact ⟨0, .nil, kids, Lib.hid rfl, Lib.hid rfl, rfl, Lib.hid (by first | trivial | rfl), Below.refl _ _⟩
  case round =>
    obtain ⟨q, dn, r, hk, hq, rfl, hno, hb⟩ := hrel
    have hlen := Lib.hid (show kids.len = q + r.len by rw [hk.out, Fo.app_len, hq.out])
    obtain ⟨hx0, hx1, hx2, hx3, hx4⟩ := box_cells _ _ _ _ _ _ _ hb
    have hb0 := box_below hb
    have hws : w.heap.size + 1 ≤ wr.heap.size := by have := hb.size; simpa using this
    cases r with
    | nil =>
      have hlt : ¬ (q : Int) < kids.len := by have := hlen.out; simp only [Fo.len] at this; omega
      go_wp2_with fail
      go_ret
      exact ⟨by rw [HE.out]; rfl, hb0⟩
    | cons k1 l1 d1 mn1 mx1 r1 =>
      have hlt : (q : Int) < kids.len := by have := hlen.out; simp only [Fo.len] at this; omega
      have hq0 : (0 : Int) ≤ q := by omega
      obtain ⟨b0, o0, hA0⟩ := Nd.first (a := ⟨0, l, A, c, mn, mx, kids⟩) HA.out hk.out
      simp only at hA0
      subst hA0
      have h3 := HA.out.below hb0
      rw [hk.out] at h3
      obtain ⟨K1, c1, hcel, hc3, hc4, hat1⟩ := h3.nth hq.out
      have hcel1 := hcel.1
      have hcel2 := hcel.2.1
      have hcel3 := hcel.2.2.1
      have hcel4 := hcel.2.2.2.1
      have hcel5 := hcel.2.2.2.2
      have hkk := Lib.hid (show kids = (dn.app (.cons k1 l1 d1 mn1 mx1 .nil)).app r1 by rw [hk.out, Fo.app_assoc]; rfl)
      have hqq := Lib.hid (show (dn.app (.cons k1 l1 d1 mn1 mx1 .nil)).len = q + 1 by rw [Fo.app_len, hq.out]; rfl)
      obtain ⟨hy0, hy1, hy2, hy3, hy4⟩ := box_cells _ _ _ _ _ _ _ (hb.trans ((HB1.out wr (.cells #[.int .i64 k1, .string l1, .slice K1 d1.len c1, .int .i64 mn1, .int .i64 mx1] 24)).mono hws))
      clear hcel h3 hat1 hx0 hx1 hx2 hx3 hx4 hy1 hy2 hy3 hy4
      cases t7 : k1 == 1
      · have hnn := Lib.hid trivial
        go_wp2_with fail
        exact ⟨⟨q + 1, _, r1, hkk, hqq, by go_num, hnn, hb.trans ((HB1.out _ _).mono hws)⟩, by simp [RowKit.intOf]; omega⟩
      · have hnn := Lib.hid trivial
        go_wp2_with fail
        exact ⟨⟨q + 1, _, r1, hkk, hqq, by go_num, hnn, hb.trans ((HB1.out _ _).mono hws)⟩, by simp [RowKit.intOf]; omega⟩
set_option maxRecDepth 100000 in
set_option maxHeartbeats 4000000 in
theorem one_2 (l : ByteArray) (A : Option Addr) (c : Nat) (mn mx : Int) (kids : Fo) (X : List Nat) (w : World) (hc : kids.len ≤ c) (hc2 : c ≤ 9223372036854775807) (hat : At w X kids A) (hL : leastI 2 ≤ (kids.len : Int)) (hM : (kids.len : Int) ≤ mostI 2) :
    Calls Tryz.prog 84 #[.agg #[.int .i64 2, .string l, .slice A kids.len c, .int .i64 mn, .int .i64 mx]] w fun e w' => e = .returned (.int .i64 (oneE 2 l kids mn mx)) ∧ Below w.heap.size w w' := by
  have HC := Lib.hid (fun w => kids_any 2 w)
  have HB1 := Lib.hid (fun (w : World) o => (Below.refl _ w).alloc (Nat.le_refl _) o)
  have HA := Lib.hid hat
  have tl : decide ((kids.len : Int) < leastI 2) = false := decide_eq_false (by omega)
  have tm : decide ((kids.len : Int) > mostI 2) = false := decide_eq_false (by omega)
  have HE := Lib.hid (show oneE 2 l kids mn mx = if (2 == 4 || 2 == 5) && !noneK 2 kids then 1 else (if namedB l then 0 else 2) by
    unfold oneE
    rw [if_neg (by simp [kindB]; omega)]
    rfl)
  have hkb : kindB 2 = true := rfl
  rw [hkb] at HC
  clear hat hL hM hkb
  generalize leastI 2 = L at *
  generalize mostI 2 = M at *
  have HN := Lib.hid (fun w => named_any l w)
  cases hnb : namedB l
  · rw [hnb] at HN HE
    go_enter Tryz.func84, Tryz.ntmps84
    go_wp2_with (go_at_call 104; (with_reducible refine (HC.out _).mono ?_); rintro e w2 ⟨rfl, rfl⟩)
    go_loopw [34] (fun iv wr => ∃ (q : Nat) (dn r : Fo), Hid (kids = dn.app r) ∧ Hid (dn.len = q) ∧ iv = .int .i64 q ∧ Hid True ∧ Below (w.heap.size + 1) (w.alloc (.cells #[.int .i64 2, .string l, .slice A kids.len c, .int .i64 mn, .int .i64 mx] 24)) wr) (fun iv _ => kids.len - (RowKit.intOf iv).toNat)
    case atStart => exact ⟨0, .nil, kids, Lib.hid rfl, Lib.hid rfl, rfl, Lib.hid (by first | trivial | rfl), Below.refl _ _⟩
    case round =>
      obtain ⟨q, dn, r, hk, hq, rfl, hno, hb⟩ := hrel
      have hlen := Lib.hid (show kids.len = q + r.len by rw [hk.out, Fo.app_len, hq.out])
      obtain ⟨hx0, hx1, hx2, hx3, hx4⟩ := box_cells _ _ _ _ _ _ _ hb
      have hb0 := box_below hb
      have hws : w.heap.size + 1 ≤ wr.heap.size := by have := hb.size; simpa using this
      cases r with
      | nil =>
        have hlt : ¬ (q : Int) < kids.len := by have := hlen.out; simp only [Fo.len] at this; omega
        go_wp2_with (go_at_call 105; (with_reducible refine (HN.out _).mono ?_); rintro e w2 ⟨rfl, rfl⟩)
        go_ret
        exact ⟨by rw [HE.out]; rfl, hb0⟩
      | cons k1 l1 d1 mn1 mx1 r1 =>
        have hlt : (q : Int) < kids.len := by have := hlen.out; simp only [Fo.len] at this; omega
        have hq0 : (0 : Int) ≤ q := by omega
        obtain ⟨b0, o0, hA0⟩ := Nd.first (a := ⟨0, l, A, c, mn, mx, kids⟩) HA.out hk.out
        simp only at hA0
        subst hA0
        have h3 := HA.out.below hb0
        rw [hk.out] at h3
        obtain ⟨K1, c1, hcel, hc3, hc4, hat1⟩ := h3.nth hq.out
        have hcel1 := hcel.1
        have hcel2 := hcel.2.1
        have hcel3 := hcel.2.2.1
        have hcel4 := hcel.2.2.2.1
        have hcel5 := hcel.2.2.2.2
        have hkk := Lib.hid (show kids = (dn.app (.cons k1 l1 d1 mn1 mx1 .nil)).app r1 by rw [hk.out, Fo.app_assoc]; rfl)
        have hqq := Lib.hid (show (dn.app (.cons k1 l1 d1 mn1 mx1 .nil)).len = q + 1 by rw [Fo.app_len, hq.out]; rfl)
        obtain ⟨hy0, hy1, hy2, hy3, hy4⟩ := box_cells _ _ _ _ _ _ _ (hb.trans ((HB1.out wr (.cells #[.int .i64 k1, .string l1, .slice K1 d1.len c1, .int .i64 mn1, .int .i64 mx1] 24)).mono hws))
        clear hcel h3 hat1 hx0 hx1 hx2 hx3 hx4 hy1 hy2 hy3 hy4
        cases t7 : k1 == 2
        · have hnn := Lib.hid trivial
          go_wp2_with fail
          exact ⟨⟨q + 1, _, r1, hkk, hqq, by go_num, hnn, hb.trans ((HB1.out _ _).mono hws)⟩, by simp [RowKit.intOf]; omega⟩
        · have hnn := Lib.hid trivial
          go_wp2_with fail
          exact ⟨⟨q + 1, _, r1, hkk, hqq, by go_num, hnn, hb.trans ((HB1.out _ _).mono hws)⟩, by simp [RowKit.intOf]; omega⟩
  · rw [hnb] at HN HE
    go_enter Tryz.func84, Tryz.ntmps84
    go_wp2_with (go_at_call 104; (with_reducible refine (HC.out _).mono ?_); rintro e w2 ⟨rfl, rfl⟩)
    go_loopw [34] (fun iv wr => ∃ (q : Nat) (dn r : Fo), Hid (kids = dn.app r) ∧ Hid (dn.len = q) ∧ iv = .int .i64 q ∧ Hid True ∧ Below (w.heap.size + 1) (w.alloc (.cells #[.int .i64 2, .string l, .slice A kids.len c, .int .i64 mn, .int .i64 mx] 24)) wr) (fun iv _ => kids.len - (RowKit.intOf iv).toNat)
    case atStart => exact ⟨0, .nil, kids, Lib.hid rfl, Lib.hid rfl, rfl, Lib.hid (by first | trivial | rfl), Below.refl _ _⟩
    case round =>
      obtain ⟨q, dn, r, hk, hq, rfl, hno, hb⟩ := hrel
      have hlen := Lib.hid (show kids.len = q + r.len by rw [hk.out, Fo.app_len, hq.out])
      obtain ⟨hx0, hx1, hx2, hx3, hx4⟩ := box_cells _ _ _ _ _ _ _ hb
      have hb0 := box_below hb
      have hws : w.heap.size + 1 ≤ wr.heap.size := by have := hb.size; simpa using this
      cases r with
      | nil =>
        have hlt : ¬ (q : Int) < kids.len := by have := hlen.out; simp only [Fo.len] at this; omega
        go_wp2_with (go_at_call 105; (with_reducible refine (HN.out _).mono ?_); rintro e w2 ⟨rfl, rfl⟩)
        go_ret
        exact ⟨by rw [HE.out]; rfl, hb0⟩
      | cons k1 l1 d1 mn1 mx1 r1 =>
        have hlt : (q : Int) < kids.len := by have := hlen.out; simp only [Fo.len] at this; omega
        have hq0 : (0 : Int) ≤ q := by omega
        obtain ⟨b0, o0, hA0⟩ := Nd.first (a := ⟨0, l, A, c, mn, mx, kids⟩) HA.out hk.out
        simp only at hA0
        subst hA0
        have h3 := HA.out.below hb0
        rw [hk.out] at h3
        obtain ⟨K1, c1, hcel, hc3, hc4, hat1⟩ := h3.nth hq.out
        have hcel1 := hcel.1
        have hcel2 := hcel.2.1
        have hcel3 := hcel.2.2.1
        have hcel4 := hcel.2.2.2.1
        have hcel5 := hcel.2.2.2.2
        have hkk := Lib.hid (show kids = (dn.app (.cons k1 l1 d1 mn1 mx1 .nil)).app r1 by rw [hk.out, Fo.app_assoc]; rfl)
        have hqq := Lib.hid (show (dn.app (.cons k1 l1 d1 mn1 mx1 .nil)).len = q + 1 by rw [Fo.app_len, hq.out]; rfl)
        obtain ⟨hy0, hy1, hy2, hy3, hy4⟩ := box_cells _ _ _ _ _ _ _ (hb.trans ((HB1.out wr (.cells #[.int .i64 k1, .string l1, .slice K1 d1.len c1, .int .i64 mn1, .int .i64 mx1] 24)).mono hws))
        clear hcel h3 hat1 hx0 hx1 hx2 hx3 hx4 hy1 hy2 hy3 hy4
        cases t7 : k1 == 2
        · have hnn := Lib.hid trivial
          go_wp2_with fail
          exact ⟨⟨q + 1, _, r1, hkk, hqq, by go_num, hnn, hb.trans ((HB1.out _ _).mono hws)⟩, by simp [RowKit.intOf]; omega⟩
        · have hnn := Lib.hid trivial
          go_wp2_with fail
          exact ⟨⟨q + 1, _, r1, hkk, hqq, by go_num, hnn, hb.trans ((HB1.out _ _).mono hws)⟩, by simp [RowKit.intOf]; omega⟩
set_option maxRecDepth 100000 in
set_option maxHeartbeats 4000000 in
theorem one_3 (l : ByteArray) (A : Option Addr) (c : Nat) (mn mx : Int) (kids : Fo) (X : List Nat) (w : World) (hc : kids.len ≤ c) (hc2 : c ≤ 9223372036854775807) (hat : At w X kids A) (hL : leastI 3 ≤ (kids.len : Int)) (hM : (kids.len : Int) ≤ mostI 3) :
    Calls Tryz.prog 84 #[.agg #[.int .i64 3, .string l, .slice A kids.len c, .int .i64 mn, .int .i64 mx]] w fun e w' => e = .returned (.int .i64 (oneE 3 l kids mn mx)) ∧ Below w.heap.size w w' := by
  have HC := Lib.hid (fun w => kids_any 3 w)
  have HB1 := Lib.hid (fun (w : World) o => (Below.refl _ w).alloc (Nat.le_refl _) o)
  have HA := Lib.hid hat
  have tl : decide ((kids.len : Int) < leastI 3) = false := decide_eq_false (by omega)
  have tm : decide ((kids.len : Int) > mostI 3) = false := decide_eq_false (by omega)
  have HE := Lib.hid (show oneE 3 l kids mn mx = if (3 == 4 || 3 == 5) && !noneK 3 kids then 1 else (if namedB l then 0 else 2) by
    unfold oneE
    rw [if_neg (by simp [kindB]; omega)]
    rfl)
  have hkb : kindB 3 = true := rfl
  rw [hkb] at HC
  clear hat hL hM hkb
  generalize leastI 3 = L at *
  generalize mostI 3 = M at *
  have HN := Lib.hid (fun w => named_any l w)
  cases hnb : namedB l
  · rw [hnb] at HN HE
    go_enter Tryz.func84, Tryz.ntmps84
    go_wp2_with (go_at_call 104; (with_reducible refine (HC.out _).mono ?_); rintro e w2 ⟨rfl, rfl⟩)
    go_loopw [34] (fun iv wr => ∃ (q : Nat) (dn r : Fo), Hid (kids = dn.app r) ∧ Hid (dn.len = q) ∧ iv = .int .i64 q ∧ Hid True ∧ Below (w.heap.size + 1) (w.alloc (.cells #[.int .i64 3, .string l, .slice A kids.len c, .int .i64 mn, .int .i64 mx] 24)) wr) (fun iv _ => kids.len - (RowKit.intOf iv).toNat)
    case atStart => exact ⟨0, .nil, kids, Lib.hid rfl, Lib.hid rfl, rfl, Lib.hid (by first | trivial | rfl), Below.refl _ _⟩
    case round =>
      obtain ⟨q, dn, r, hk, hq, rfl, hno, hb⟩ := hrel
      have hlen := Lib.hid (show kids.len = q + r.len by rw [hk.out, Fo.app_len, hq.out])
      obtain ⟨hx0, hx1, hx2, hx3, hx4⟩ := box_cells _ _ _ _ _ _ _ hb
      have hb0 := box_below hb
      have hws : w.heap.size + 1 ≤ wr.heap.size := by have := hb.size; simpa using this
      cases r with
      | nil =>
        have hlt : ¬ (q : Int) < kids.len := by have := hlen.out; simp only [Fo.len] at this; omega
        go_wp2_with (go_at_call 105; (with_reducible refine (HN.out _).mono ?_); rintro e w2 ⟨rfl, rfl⟩)
        go_ret
        exact ⟨by rw [HE.out]; rfl, hb0⟩
      | cons k1 l1 d1 mn1 mx1 r1 =>
        have hlt : (q : Int) < kids.len := by have := hlen.out; simp only [Fo.len] at this; omega
        have hq0 : (0 : Int) ≤ q := by omega
        obtain ⟨b0, o0, hA0⟩ := Nd.first (a := ⟨0, l, A, c, mn, mx, kids⟩) HA.out hk.out
        simp only at hA0
        subst hA0
        have h3 := HA.out.below hb0
        rw [hk.out] at h3
        obtain ⟨K1, c1, hcel, hc3, hc4, hat1⟩ := h3.nth hq.out
        have hcel1 := hcel.1
        have hcel2 := hcel.2.1
        have hcel3 := hcel.2.2.1
        have hcel4 := hcel.2.2.2.1
        have hcel5 := hcel.2.2.2.2
        have hkk := Lib.hid (show kids = (dn.app (.cons k1 l1 d1 mn1 mx1 .nil)).app r1 by rw [hk.out, Fo.app_assoc]; rfl)
        have hqq := Lib.hid (show (dn.app (.cons k1 l1 d1 mn1 mx1 .nil)).len = q + 1 by rw [Fo.app_len, hq.out]; rfl)
        obtain ⟨hy0, hy1, hy2, hy3, hy4⟩ := box_cells _ _ _ _ _ _ _ (hb.trans ((HB1.out wr (.cells #[.int .i64 k1, .string l1, .slice K1 d1.len c1, .int .i64 mn1, .int .i64 mx1] 24)).mono hws))
        clear hcel h3 hat1 hx0 hx1 hx2 hx3 hx4 hy1 hy2 hy3 hy4
        cases t7 : k1 == 3
        · have hnn := Lib.hid trivial
          go_wp2_with fail
          exact ⟨⟨q + 1, _, r1, hkk, hqq, by go_num, hnn, hb.trans ((HB1.out _ _).mono hws)⟩, by simp [RowKit.intOf]; omega⟩
        · have hnn := Lib.hid trivial
          go_wp2_with fail
          exact ⟨⟨q + 1, _, r1, hkk, hqq, by go_num, hnn, hb.trans ((HB1.out _ _).mono hws)⟩, by simp [RowKit.intOf]; omega⟩
  · rw [hnb] at HN HE
    go_enter Tryz.func84, Tryz.ntmps84
    go_wp2_with (go_at_call 104; (with_reducible refine (HC.out _).mono ?_); rintro e w2 ⟨rfl, rfl⟩)
    go_loopw [34] (fun iv wr => ∃ (q : Nat) (dn r : Fo), Hid (kids = dn.app r) ∧ Hid (dn.len = q) ∧ iv = .int .i64 q ∧ Hid True ∧ Below (w.heap.size + 1) (w.alloc (.cells #[.int .i64 3, .string l, .slice A kids.len c, .int .i64 mn, .int .i64 mx] 24)) wr) (fun iv _ => kids.len - (RowKit.intOf iv).toNat)
    case atStart => exact ⟨0, .nil, kids, Lib.hid rfl, Lib.hid rfl, rfl, Lib.hid (by first | trivial | rfl), Below.refl _ _⟩
    case round =>
      obtain ⟨q, dn, r, hk, hq, rfl, hno, hb⟩ := hrel
      have hlen := Lib.hid (show kids.len = q + r.len by rw [hk.out, Fo.app_len, hq.out])
      obtain ⟨hx0, hx1, hx2, hx3, hx4⟩ := box_cells _ _ _ _ _ _ _ hb
      have hb0 := box_below hb
      have hws : w.heap.size + 1 ≤ wr.heap.size := by have := hb.size; simpa using this
      cases r with
      | nil =>
        have hlt : ¬ (q : Int) < kids.len := by have := hlen.out; simp only [Fo.len] at this; omega
        go_wp2_with (go_at_call 105; (with_reducible refine (HN.out _).mono ?_); rintro e w2 ⟨rfl, rfl⟩)
        go_ret
        exact ⟨by rw [HE.out]; rfl, hb0⟩
      | cons k1 l1 d1 mn1 mx1 r1 =>
        have hlt : (q : Int) < kids.len := by have := hlen.out; simp only [Fo.len] at this; omega
        have hq0 : (0 : Int) ≤ q := by omega
        obtain ⟨b0, o0, hA0⟩ := Nd.first (a := ⟨0, l, A, c, mn, mx, kids⟩) HA.out hk.out
        simp only at hA0
        subst hA0
        have h3 := HA.out.below hb0
        rw [hk.out] at h3
        obtain ⟨K1, c1, hcel, hc3, hc4, hat1⟩ := h3.nth hq.out
        have hcel1 := hcel.1
        have hcel2 := hcel.2.1
        have hcel3 := hcel.2.2.1
        have hcel4 := hcel.2.2.2.1
        have hcel5 := hcel.2.2.2.2
        have hkk := Lib.hid (show kids = (dn.app (.cons k1 l1 d1 mn1 mx1 .nil)).app r1 by rw [hk.out, Fo.app_assoc]; rfl)
        have hqq := Lib.hid (show (dn.app (.cons k1 l1 d1 mn1 mx1 .nil)).len = q + 1 by rw [Fo.app_len, hq.out]; rfl)
        obtain ⟨hy0, hy1, hy2, hy3, hy4⟩ := box_cells _ _ _ _ _ _ _ (hb.trans ((HB1.out wr (.cells #[.int .i64 k1, .string l1, .slice K1 d1.len c1, .int .i64 mn1, .int .i64 mx1] 24)).mono hws))
        clear hcel h3 hat1 hx0 hx1 hx2 hx3 hx4 hy1 hy2 hy3 hy4
        cases t7 : k1 == 3
        · have hnn := Lib.hid trivial
          go_wp2_with fail
          exact ⟨⟨q + 1, _, r1, hkk, hqq, by go_num, hnn, hb.trans ((HB1.out _ _).mono hws)⟩, by simp [RowKit.intOf]; omega⟩
        · have hnn := Lib.hid trivial
          go_wp2_with fail
          exact ⟨⟨q + 1, _, r1, hkk, hqq, by go_num, hnn, hb.trans ((HB1.out _ _).mono hws)⟩, by simp [RowKit.intOf]; omega⟩
set_option maxRecDepth 100000 in
set_option maxHeartbeats 4000000 in
theorem one_4 (l : ByteArray) (A : Option Addr) (c : Nat) (mn mx : Int) (kids : Fo) (X : List Nat) (w : World) (hc : kids.len ≤ c) (hc2 : c ≤ 9223372036854775807) (hat : At w X kids A) (hL : leastI 4 ≤ (kids.len : Int)) (hM : (kids.len : Int) ≤ mostI 4) :
    Calls Tryz.prog 84 #[.agg #[.int .i64 4, .string l, .slice A kids.len c, .int .i64 mn, .int .i64 mx]] w fun e w' => e = .returned (.int .i64 (oneE 4 l kids mn mx)) ∧ Below w.heap.size w w' := by
  have HC := Lib.hid (fun w => kids_any 4 w)
  have HB1 := Lib.hid (fun (w : World) o => (Below.refl _ w).alloc (Nat.le_refl _) o)
  have HA := Lib.hid hat
  have tl : decide ((kids.len : Int) < leastI 4) = false := decide_eq_false (by omega)
  have tm : decide ((kids.len : Int) > mostI 4) = false := decide_eq_false (by omega)
  have HE := Lib.hid (show oneE 4 l kids mn mx = if (4 == 4 || 4 == 5) && !noneK 4 kids then 1 else 0 by
    unfold oneE
    rw [if_neg (by simp [kindB]; omega)]
    rfl)
  have hkb : kindB 4 = true := rfl
  rw [hkb] at HC
  clear hat hL hM hkb
  generalize leastI 4 = L at *
  generalize mostI 4 = M at *
  go_enter Tryz.func84, Tryz.ntmps84
  go_wp2_with (go_at_call 104; (with_reducible refine (HC.out _).mono ?_); rintro e w2 ⟨rfl, rfl⟩)
  go_loopw [34] (fun iv wr => ∃ (q : Nat) (dn r : Fo), Hid (kids = dn.app r) ∧ Hid (dn.len = q) ∧ iv = .int .i64 q ∧ Hid (noneK 4 dn = true) ∧ Below (w.heap.size + 1) (w.alloc (.cells #[.int .i64 4, .string l, .slice A kids.len c, .int .i64 mn, .int .i64 mx] 24)) wr) (fun iv _ => kids.len - (RowKit.intOf iv).toNat)
  case atStart => exact ⟨0, .nil, kids, Lib.hid rfl, Lib.hid rfl, rfl, Lib.hid (by first | trivial | rfl), Below.refl _ _⟩
  case round =>
    obtain ⟨q, dn, r, hk, hq, rfl, hno, hb⟩ := hrel
    have hlen := Lib.hid (show kids.len = q + r.len by rw [hk.out, Fo.app_len, hq.out])
    obtain ⟨hx0, hx1, hx2, hx3, hx4⟩ := box_cells _ _ _ _ _ _ _ hb
    have hb0 := box_below hb
    have hws : w.heap.size + 1 ≤ wr.heap.size := by have := hb.size; simpa using this
    cases r with
    | nil =>
      have hlt : ¬ (q : Int) < kids.len := by have := hlen.out; simp only [Fo.len] at this; omega
      have hfin := Lib.hid (show noneK 4 kids = true by rw [hk.out, noneK_app, hno.out]; rfl)
      go_wp2_with fail
      go_ret
      exact ⟨by rw [HE.out, hfin.out]; rfl, hb0⟩
    | cons k1 l1 d1 mn1 mx1 r1 =>
      have hlt : (q : Int) < kids.len := by have := hlen.out; simp only [Fo.len] at this; omega
      have hq0 : (0 : Int) ≤ q := by omega
      obtain ⟨b0, o0, hA0⟩ := Nd.first (a := ⟨0, l, A, c, mn, mx, kids⟩) HA.out hk.out
      simp only at hA0
      subst hA0
      have h3 := HA.out.below hb0
      rw [hk.out] at h3
      obtain ⟨K1, c1, hcel, hc3, hc4, hat1⟩ := h3.nth hq.out
      have hcel1 := hcel.1
      have hcel2 := hcel.2.1
      have hcel3 := hcel.2.2.1
      have hcel4 := hcel.2.2.2.1
      have hcel5 := hcel.2.2.2.2
      have hkk := Lib.hid (show kids = (dn.app (.cons k1 l1 d1 mn1 mx1 .nil)).app r1 by rw [hk.out, Fo.app_assoc]; rfl)
      have hqq := Lib.hid (show (dn.app (.cons k1 l1 d1 mn1 mx1 .nil)).len = q + 1 by rw [Fo.app_len, hq.out]; rfl)
      obtain ⟨hy0, hy1, hy2, hy3, hy4⟩ := box_cells _ _ _ _ _ _ _ (hb.trans ((HB1.out wr (.cells #[.int .i64 k1, .string l1, .slice K1 d1.len c1, .int .i64 mn1, .int .i64 mx1] 24)).mono hws))
      clear hcel h3 hat1 hx0 hx1 hx2 hx3 hx4 hy1 hy2 hy3 hy4
      cases t7 : k1 == 4
      · have hnn := Lib.hid (show noneK 4 (dn.app (.cons k1 l1 d1 mn1 mx1 .nil)) = true by rw [noneK_app, hno.out, noneK, t7]; rfl)
        go_wp2_with fail
        exact ⟨⟨q + 1, _, r1, hkk, hqq, by go_num, hnn, hb.trans ((HB1.out _ _).mono hws)⟩, by simp [RowKit.intOf]; omega⟩
      · have hnn := Lib.hid (show noneK 4 kids = false by rw [hk.out, noneK_app, noneK, t7]; simp)
        go_wp2_with fail
        go_ret
        exact ⟨by rw [HE.out, hnn.out]; rfl, hb0.trans ((HB1.out _ _).mono hb0.size)⟩
set_option maxRecDepth 100000 in
set_option maxHeartbeats 4000000 in
theorem one_5 (l : ByteArray) (A : Option Addr) (c : Nat) (mn mx : Int) (kids : Fo) (X : List Nat) (w : World) (hc : kids.len ≤ c) (hc2 : c ≤ 9223372036854775807) (hat : At w X kids A) (hL : leastI 5 ≤ (kids.len : Int)) (hM : (kids.len : Int) ≤ mostI 5) :
    Calls Tryz.prog 84 #[.agg #[.int .i64 5, .string l, .slice A kids.len c, .int .i64 mn, .int .i64 mx]] w fun e w' => e = .returned (.int .i64 (oneE 5 l kids mn mx)) ∧ Below w.heap.size w w' := by
  have HC := Lib.hid (fun w => kids_any 5 w)
  have HB1 := Lib.hid (fun (w : World) o => (Below.refl _ w).alloc (Nat.le_refl _) o)
  have HA := Lib.hid hat
  have tl : decide ((kids.len : Int) < leastI 5) = false := decide_eq_false (by omega)
  have tm : decide ((kids.len : Int) > mostI 5) = false := decide_eq_false (by omega)
  have HE := Lib.hid (show oneE 5 l kids mn mx = if (5 == 4 || 5 == 5) && !noneK 5 kids then 1 else 0 by
    unfold oneE
    rw [if_neg (by simp [kindB]; omega)]
    rfl)
  have hkb : kindB 5 = true := rfl
  rw [hkb] at HC
  clear hat hL hM hkb
  generalize leastI 5 = L at *
  generalize mostI 5 = M at *
  go_enter Tryz.func84, Tryz.ntmps84
  go_wp2_with (go_at_call 104; (with_reducible refine (HC.out _).mono ?_); rintro e w2 ⟨rfl, rfl⟩)
  go_loopw [34] (fun iv wr => ∃ (q : Nat) (dn r : Fo), Hid (kids = dn.app r) ∧ Hid (dn.len = q) ∧ iv = .int .i64 q ∧ Hid (noneK 5 dn = true) ∧ Below (w.heap.size + 1) (w.alloc (.cells #[.int .i64 5, .string l, .slice A kids.len c, .int .i64 mn, .int .i64 mx] 24)) wr) (fun iv _ => kids.len - (RowKit.intOf iv).toNat)
  case atStart => exact ⟨0, .nil, kids, Lib.hid rfl, Lib.hid rfl, rfl, Lib.hid (by first | trivial | rfl), Below.refl _ _⟩
  case round =>
    obtain ⟨q, dn, r, hk, hq, rfl, hno, hb⟩ := hrel
    have hlen := Lib.hid (show kids.len = q + r.len by rw [hk.out, Fo.app_len, hq.out])
    obtain ⟨hx0, hx1, hx2, hx3, hx4⟩ := box_cells _ _ _ _ _ _ _ hb
    have hb0 := box_below hb
    have hws : w.heap.size + 1 ≤ wr.heap.size := by have := hb.size; simpa using this
    cases r with
    | nil =>
      have hlt : ¬ (q : Int) < kids.len := by have := hlen.out; simp only [Fo.len] at this; omega
      have hfin := Lib.hid (show noneK 5 kids = true by rw [hk.out, noneK_app, hno.out]; rfl)
      go_wp2_with fail
      go_ret
      exact ⟨by rw [HE.out, hfin.out]; rfl, hb0⟩
    | cons k1 l1 d1 mn1 mx1 r1 =>
      have hlt : (q : Int) < kids.len := by have := hlen.out; simp only [Fo.len] at this; omega
      have hq0 : (0 : Int) ≤ q := by omega
      obtain ⟨b0, o0, hA0⟩ := Nd.first (a := ⟨0, l, A, c, mn, mx, kids⟩) HA.out hk.out
      simp only at hA0
      subst hA0
      have h3 := HA.out.below hb0
      rw [hk.out] at h3
      obtain ⟨K1, c1, hcel, hc3, hc4, hat1⟩ := h3.nth hq.out
      have hcel1 := hcel.1
      have hcel2 := hcel.2.1
      have hcel3 := hcel.2.2.1
      have hcel4 := hcel.2.2.2.1
      have hcel5 := hcel.2.2.2.2
      have hkk := Lib.hid (show kids = (dn.app (.cons k1 l1 d1 mn1 mx1 .nil)).app r1 by rw [hk.out, Fo.app_assoc]; rfl)
      have hqq := Lib.hid (show (dn.app (.cons k1 l1 d1 mn1 mx1 .nil)).len = q + 1 by rw [Fo.app_len, hq.out]; rfl)
      obtain ⟨hy0, hy1, hy2, hy3, hy4⟩ := box_cells _ _ _ _ _ _ _ (hb.trans ((HB1.out wr (.cells #[.int .i64 k1, .string l1, .slice K1 d1.len c1, .int .i64 mn1, .int .i64 mx1] 24)).mono hws))
      clear hcel h3 hat1 hx0 hx1 hx2 hx3 hx4 hy1 hy2 hy3 hy4
      cases t7 : k1 == 5
      · have hnn := Lib.hid (show noneK 5 (dn.app (.cons k1 l1 d1 mn1 mx1 .nil)) = true by rw [noneK_app, hno.out, noneK, t7]; rfl)
        go_wp2_with fail
        exact ⟨⟨q + 1, _, r1, hkk, hqq, by go_num, hnn, hb.trans ((HB1.out _ _).mono hws)⟩, by simp [RowKit.intOf]; omega⟩
      · have hnn := Lib.hid (show noneK 5 kids = false by rw [hk.out, noneK_app, noneK, t7]; simp)
        go_wp2_with fail
        go_ret
        exact ⟨by rw [HE.out, hnn.out]; rfl, hb0.trans ((HB1.out _ _).mono hb0.size)⟩
set_option maxRecDepth 100000 in
set_option maxHeartbeats 4000000 in
theorem one_6 (l : ByteArray) (A : Option Addr) (c : Nat) (mn mx : Int) (kids : Fo) (X : List Nat) (w : World) (hc : kids.len ≤ c) (hc2 : c ≤ 9223372036854775807) (hat : At w X kids A) (hL : leastI 6 ≤ (kids.len : Int)) (hM : (kids.len : Int) ≤ mostI 6) :
    Calls Tryz.prog 84 #[.agg #[.int .i64 6, .string l, .slice A kids.len c, .int .i64 mn, .int .i64 mx]] w fun e w' => e = .returned (.int .i64 (oneE 6 l kids mn mx)) ∧ Below w.heap.size w w' := by
  have HC := Lib.hid (fun w => kids_any 6 w)
  have HB1 := Lib.hid (fun (w : World) o => (Below.refl _ w).alloc (Nat.le_refl _) o)
  have HA := Lib.hid hat
  have tl : decide ((kids.len : Int) < leastI 6) = false := decide_eq_false (by omega)
  have tm : decide ((kids.len : Int) > mostI 6) = false := decide_eq_false (by omega)
  have HE := Lib.hid (show oneE 6 l kids mn mx = if (6 == 4 || 6 == 5) && !noneK 6 kids then 1 else 0 by
    unfold oneE
    rw [if_neg (by simp [kindB]; omega)]
    rfl)
  have hkb : kindB 6 = true := rfl
  rw [hkb] at HC
  clear hat hL hM hkb
  generalize leastI 6 = L at *
  generalize mostI 6 = M at *
  go_enter Tryz.func84, Tryz.ntmps84
  go_wp2_with (go_at_call 104; (with_reducible refine (HC.out _).mono ?_); rintro e w2 ⟨rfl, rfl⟩)
  go_loopw [34] (fun iv wr => ∃ (q : Nat) (dn r : Fo), Hid (kids = dn.app r) ∧ Hid (dn.len = q) ∧ iv = .int .i64 q ∧ Hid True ∧ Below (w.heap.size + 1) (w.alloc (.cells #[.int .i64 6, .string l, .slice A kids.len c, .int .i64 mn, .int .i64 mx] 24)) wr) (fun iv _ => kids.len - (RowKit.intOf iv).toNat)
  case atStart => exact ⟨0, .nil, kids, Lib.hid rfl, Lib.hid rfl, rfl, Lib.hid (by first | trivial | rfl), Below.refl _ _⟩
  case round =>
    obtain ⟨q, dn, r, hk, hq, rfl, hno, hb⟩ := hrel
    have hlen := Lib.hid (show kids.len = q + r.len by rw [hk.out, Fo.app_len, hq.out])
    obtain ⟨hx0, hx1, hx2, hx3, hx4⟩ := box_cells _ _ _ _ _ _ _ hb
    have hb0 := box_below hb
    have hws : w.heap.size + 1 ≤ wr.heap.size := by have := hb.size; simpa using this
    cases r with
    | nil =>
      have hlt : ¬ (q : Int) < kids.len := by have := hlen.out; simp only [Fo.len] at this; omega
      go_wp2_with fail
      go_ret
      exact ⟨by rw [HE.out]; rfl, hb0⟩
    | cons k1 l1 d1 mn1 mx1 r1 =>
      have hlt : (q : Int) < kids.len := by have := hlen.out; simp only [Fo.len] at this; omega
      have hq0 : (0 : Int) ≤ q := by omega
      obtain ⟨b0, o0, hA0⟩ := Nd.first (a := ⟨0, l, A, c, mn, mx, kids⟩) HA.out hk.out
      simp only at hA0
      subst hA0
      have h3 := HA.out.below hb0
      rw [hk.out] at h3
      obtain ⟨K1, c1, hcel, hc3, hc4, hat1⟩ := h3.nth hq.out
      have hcel1 := hcel.1
      have hcel2 := hcel.2.1
      have hcel3 := hcel.2.2.1
      have hcel4 := hcel.2.2.2.1
      have hcel5 := hcel.2.2.2.2
      have hkk := Lib.hid (show kids = (dn.app (.cons k1 l1 d1 mn1 mx1 .nil)).app r1 by rw [hk.out, Fo.app_assoc]; rfl)
      have hqq := Lib.hid (show (dn.app (.cons k1 l1 d1 mn1 mx1 .nil)).len = q + 1 by rw [Fo.app_len, hq.out]; rfl)
      obtain ⟨hy0, hy1, hy2, hy3, hy4⟩ := box_cells _ _ _ _ _ _ _ (hb.trans ((HB1.out wr (.cells #[.int .i64 k1, .string l1, .slice K1 d1.len c1, .int .i64 mn1, .int .i64 mx1] 24)).mono hws))
      clear hcel h3 hat1 hx0 hx1 hx2 hx3 hx4 hy1 hy2 hy3 hy4
      cases t7 : k1 == 6
      · have hnn := Lib.hid trivial
        go_wp2_with fail
        exact ⟨⟨q + 1, _, r1, hkk, hqq, by go_num, hnn, hb.trans ((HB1.out _ _).mono hws)⟩, by simp [RowKit.intOf]; omega⟩
      · have hnn := Lib.hid trivial
        go_wp2_with fail
        exact ⟨⟨q + 1, _, r1, hkk, hqq, by go_num, hnn, hb.trans ((HB1.out _ _).mono hws)⟩, by simp [RowKit.intOf]; omega⟩
set_option maxRecDepth 100000 in
set_option maxHeartbeats 4000000 in
theorem one_7 (l : ByteArray) (A : Option Addr) (c : Nat) (mn mx : Int) (kids : Fo) (X : List Nat) (w : World) (hc : kids.len ≤ c) (hc2 : c ≤ 9223372036854775807) (hat : At w X kids A) (hL : leastI 7 ≤ (kids.len : Int)) (hM : (kids.len : Int) ≤ mostI 7) :
    Calls Tryz.prog 84 #[.agg #[.int .i64 7, .string l, .slice A kids.len c, .int .i64 mn, .int .i64 mx]] w fun e w' => e = .returned (.int .i64 (oneE 7 l kids mn mx)) ∧ Below w.heap.size w w' := by
  have HC := Lib.hid (fun w => kids_any 7 w)
  have HB1 := Lib.hid (fun (w : World) o => (Below.refl _ w).alloc (Nat.le_refl _) o)
  have HA := Lib.hid hat
  have tl : decide ((kids.len : Int) < leastI 7) = false := decide_eq_false (by omega)
  have tm : decide ((kids.len : Int) > mostI 7) = false := decide_eq_false (by omega)
  have HE := Lib.hid (show oneE 7 l kids mn mx = if (7 == 4 || 7 == 5) && !noneK 7 kids then 1 else 0 by
    unfold oneE
    rw [if_neg (by simp [kindB]; omega)]
    rfl)
  have hkb : kindB 7 = true := rfl
  rw [hkb] at HC
  clear hat hL hM hkb
  generalize leastI 7 = L at *
  generalize mostI 7 = M at *
  go_enter Tryz.func84, Tryz.ntmps84
  go_wp2_with (go_at_call 104; (with_reducible refine (HC.out _).mono ?_); rintro e w2 ⟨rfl, rfl⟩)
  go_loopw [34] (fun iv wr => ∃ (q : Nat) (dn r : Fo), Hid (kids = dn.app r) ∧ Hid (dn.len = q) ∧ iv = .int .i64 q ∧ Hid True ∧ Below (w.heap.size + 1) (w.alloc (.cells #[.int .i64 7, .string l, .slice A kids.len c, .int .i64 mn, .int .i64 mx] 24)) wr) (fun iv _ => kids.len - (RowKit.intOf iv).toNat)
  case atStart => exact ⟨0, .nil, kids, Lib.hid rfl, Lib.hid rfl, rfl, Lib.hid (by first | trivial | rfl), Below.refl _ _⟩
  case round =>
    obtain ⟨q, dn, r, hk, hq, rfl, hno, hb⟩ := hrel
    have hlen := Lib.hid (show kids.len = q + r.len by rw [hk.out, Fo.app_len, hq.out])
    obtain ⟨hx0, hx1, hx2, hx3, hx4⟩ := box_cells _ _ _ _ _ _ _ hb
    have hb0 := box_below hb
    have hws : w.heap.size + 1 ≤ wr.heap.size := by have := hb.size; simpa using this
    cases r with
    | nil =>
      have hlt : ¬ (q : Int) < kids.len := by have := hlen.out; simp only [Fo.len] at this; omega
      go_wp2_with fail
      go_ret
      exact ⟨by rw [HE.out]; rfl, hb0⟩
    | cons k1 l1 d1 mn1 mx1 r1 =>
      have hlt : (q : Int) < kids.len := by have := hlen.out; simp only [Fo.len] at this; omega
      have hq0 : (0 : Int) ≤ q := by omega
      obtain ⟨b0, o0, hA0⟩ := Nd.first (a := ⟨0, l, A, c, mn, mx, kids⟩) HA.out hk.out
      simp only at hA0
      subst hA0
      have h3 := HA.out.below hb0
      rw [hk.out] at h3
      obtain ⟨K1, c1, hcel, hc3, hc4, hat1⟩ := h3.nth hq.out
      have hcel1 := hcel.1
      have hcel2 := hcel.2.1
      have hcel3 := hcel.2.2.1
      have hcel4 := hcel.2.2.2.1
      have hcel5 := hcel.2.2.2.2
      have hkk := Lib.hid (show kids = (dn.app (.cons k1 l1 d1 mn1 mx1 .nil)).app r1 by rw [hk.out, Fo.app_assoc]; rfl)
      have hqq := Lib.hid (show (dn.app (.cons k1 l1 d1 mn1 mx1 .nil)).len = q + 1 by rw [Fo.app_len, hq.out]; rfl)
      obtain ⟨hy0, hy1, hy2, hy3, hy4⟩ := box_cells _ _ _ _ _ _ _ (hb.trans ((HB1.out wr (.cells #[.int .i64 k1, .string l1, .slice K1 d1.len c1, .int .i64 mn1, .int .i64 mx1] 24)).mono hws))
      clear hcel h3 hat1 hx0 hx1 hx2 hx3 hx4 hy1 hy2 hy3 hy4
      cases t7 : k1 == 7
      · have hnn := Lib.hid trivial
        go_wp2_with fail
        exact ⟨⟨q + 1, _, r1, hkk, hqq, by go_num, hnn, hb.trans ((HB1.out _ _).mono hws)⟩, by simp [RowKit.intOf]; omega⟩
      · have hnn := Lib.hid trivial
        go_wp2_with fail
        exact ⟨⟨q + 1, _, r1, hkk, hqq, by go_num, hnn, hb.trans ((HB1.out _ _).mono hws)⟩, by simp [RowKit.intOf]; omega⟩
set_option maxRecDepth 100000 in
set_option maxHeartbeats 4000000 in
theorem one_8 (l : ByteArray) (A : Option Addr) (c : Nat) (mn mx : Int) (kids : Fo) (X : List Nat) (w : World) (hc : kids.len ≤ c) (hc2 : c ≤ 9223372036854775807) (hat : At w X kids A) (hL : leastI 8 ≤ (kids.len : Int)) (hM : (kids.len : Int) ≤ mostI 8) :
    Calls Tryz.prog 84 #[.agg #[.int .i64 8, .string l, .slice A kids.len c, .int .i64 mn, .int .i64 mx]] w fun e w' => e = .returned (.int .i64 (oneE 8 l kids mn mx)) ∧ Below w.heap.size w w' := by
  have HC := Lib.hid (fun w => kids_any 8 w)
  have HB1 := Lib.hid (fun (w : World) o => (Below.refl _ w).alloc (Nat.le_refl _) o)
  have HA := Lib.hid hat
  have tl : decide ((kids.len : Int) < leastI 8) = false := decide_eq_false (by omega)
  have tm : decide ((kids.len : Int) > mostI 8) = false := decide_eq_false (by omega)
  have HE := Lib.hid (show oneE 8 l kids mn mx = if (8 == 4 || 8 == 5) && !noneK 8 kids then 1 else 0 by
    unfold oneE
    rw [if_neg (by simp [kindB]; omega)]
    rfl)
  have hkb : kindB 8 = true := rfl
  rw [hkb] at HC
  clear hat hL hM hkb
  generalize leastI 8 = L at *
  generalize mostI 8 = M at *
  go_enter Tryz.func84, Tryz.ntmps84
  go_wp2_with (go_at_call 104; (with_reducible refine (HC.out _).mono ?_); rintro e w2 ⟨rfl, rfl⟩)
  go_loopw [34] (fun iv wr => ∃ (q : Nat) (dn r : Fo), Hid (kids = dn.app r) ∧ Hid (dn.len = q) ∧ iv = .int .i64 q ∧ Hid True ∧ Below (w.heap.size + 1) (w.alloc (.cells #[.int .i64 8, .string l, .slice A kids.len c, .int .i64 mn, .int .i64 mx] 24)) wr) (fun iv _ => kids.len - (RowKit.intOf iv).toNat)
  case atStart => exact ⟨0, .nil, kids, Lib.hid rfl, Lib.hid rfl, rfl, Lib.hid (by first | trivial | rfl), Below.refl _ _⟩
  case round =>
    obtain ⟨q, dn, r, hk, hq, rfl, hno, hb⟩ := hrel
    have hlen := Lib.hid (show kids.len = q + r.len by rw [hk.out, Fo.app_len, hq.out])
    obtain ⟨hx0, hx1, hx2, hx3, hx4⟩ := box_cells _ _ _ _ _ _ _ hb
    have hb0 := box_below hb
    have hws : w.heap.size + 1 ≤ wr.heap.size := by have := hb.size; simpa using this
    cases r with
    | nil =>
      have hlt : ¬ (q : Int) < kids.len := by have := hlen.out; simp only [Fo.len] at this; omega
      go_wp2_with fail
      go_ret
      exact ⟨by rw [HE.out]; rfl, hb0⟩
    | cons k1 l1 d1 mn1 mx1 r1 =>
      have hlt : (q : Int) < kids.len := by have := hlen.out; simp only [Fo.len] at this; omega
      have hq0 : (0 : Int) ≤ q := by omega
      obtain ⟨b0, o0, hA0⟩ := Nd.first (a := ⟨0, l, A, c, mn, mx, kids⟩) HA.out hk.out
      simp only at hA0
      subst hA0
      have h3 := HA.out.below hb0
      rw [hk.out] at h3
      obtain ⟨K1, c1, hcel, hc3, hc4, hat1⟩ := h3.nth hq.out
      have hcel1 := hcel.1
      have hcel2 := hcel.2.1
      have hcel3 := hcel.2.2.1
      have hcel4 := hcel.2.2.2.1
      have hcel5 := hcel.2.2.2.2
      have hkk := Lib.hid (show kids = (dn.app (.cons k1 l1 d1 mn1 mx1 .nil)).app r1 by rw [hk.out, Fo.app_assoc]; rfl)
      have hqq := Lib.hid (show (dn.app (.cons k1 l1 d1 mn1 mx1 .nil)).len = q + 1 by rw [Fo.app_len, hq.out]; rfl)
      obtain ⟨hy0, hy1, hy2, hy3, hy4⟩ := box_cells _ _ _ _ _ _ _ (hb.trans ((HB1.out wr (.cells #[.int .i64 k1, .string l1, .slice K1 d1.len c1, .int .i64 mn1, .int .i64 mx1] 24)).mono hws))
      clear hcel h3 hat1 hx0 hx1 hx2 hx3 hx4 hy1 hy2 hy3 hy4
      cases t7 : k1 == 8
      · have hnn := Lib.hid trivial
        go_wp2_with fail
        exact ⟨⟨q + 1, _, r1, hkk, hqq, by go_num, hnn, hb.trans ((HB1.out _ _).mono hws)⟩, by simp [RowKit.intOf]; omega⟩
      · have hnn := Lib.hid trivial
        go_wp2_with fail
        exact ⟨⟨q + 1, _, r1, hkk, hqq, by go_num, hnn, hb.trans ((HB1.out _ _).mono hws)⟩, by simp [RowKit.intOf]; omega⟩
set_option maxRecDepth 100000 in
set_option maxHeartbeats 4000000 in
theorem one_9 (l : ByteArray) (A : Option Addr) (c : Nat) (mn mx : Int) (kids : Fo) (X : List Nat) (w : World) (hc : kids.len ≤ c) (hc2 : c ≤ 9223372036854775807) (hat : At w X kids A) (hL : leastI 9 ≤ (kids.len : Int)) (hM : (kids.len : Int) ≤ mostI 9) :
    Calls Tryz.prog 84 #[.agg #[.int .i64 9, .string l, .slice A kids.len c, .int .i64 mn, .int .i64 mx]] w fun e w' => e = .returned (.int .i64 (oneE 9 l kids mn mx)) ∧ Below w.heap.size w w' := by
  have HC := Lib.hid (fun w => kids_any 9 w)
  have HB1 := Lib.hid (fun (w : World) o => (Below.refl _ w).alloc (Nat.le_refl _) o)
  have HA := Lib.hid hat
  have tl : decide ((kids.len : Int) < leastI 9) = false := decide_eq_false (by omega)
  have tm : decide ((kids.len : Int) > mostI 9) = false := decide_eq_false (by omega)
  have HE := Lib.hid (show oneE 9 l kids mn mx = if (9 == 4 || 9 == 5) && !noneK 9 kids then 1 else (if repB mn mx then 1 else 0) by
    unfold oneE
    rw [if_neg (by simp [kindB]; omega)]
    rfl)
  have hkb : kindB 9 = true := rfl
  rw [hkb] at HC
  clear hat hL hM hkb
  generalize leastI 9 = L at *
  generalize mostI 9 = M at *
  rcases (show mn < 0 ∨ (0 ≤ mn ∧ 8 < mn) ∨ (0 ≤ mn ∧ mn ≤ 8 ∧ mx = -1) ∨ (0 ≤ mn ∧ mn ≤ 8 ∧ mx ≠ -1 ∧ mx < mn) ∨ (0 ≤ mn ∧ mn ≤ 8 ∧ mx ≠ -1 ∧ mn ≤ mx ∧ mx < 1) ∨ (0 ≤ mn ∧ mn ≤ 8 ∧ mx ≠ -1 ∧ mn ≤ mx ∧ 1 ≤ mx ∧ 8 < mx) ∨ (0 ≤ mn ∧ mn ≤ 8 ∧ mx ≠ -1 ∧ mn ≤ mx ∧ 1 ≤ mx ∧ mx ≤ 8) from by omega) with h1 | ⟨h1, h2⟩ | ⟨h1, h2, h3⟩ | ⟨h1, h2, h3, h4⟩ | ⟨h1, h2, h3, h4, h5⟩ | ⟨h1, h2, h3, h4, h5, h6⟩ | ⟨h1, h2, h3, h4, h5, h6⟩
  · have ta : decide (mn < 0) = true := decide_eq_true (by omega)
    have hrb : repB mn mx = true := by simp [repB]; omega
    rw [hrb] at HE
    clear hrb h1
    go_enter Tryz.func84, Tryz.ntmps84
    go_wp2_with (go_at_call 104; (with_reducible refine (HC.out _).mono ?_); rintro e w2 ⟨rfl, rfl⟩)
    go_loopw [34] (fun iv wr => ∃ (q : Nat) (dn r : Fo), Hid (kids = dn.app r) ∧ Hid (dn.len = q) ∧ iv = .int .i64 q ∧ Hid True ∧ Below (w.heap.size + 1) (w.alloc (.cells #[.int .i64 9, .string l, .slice A kids.len c, .int .i64 mn, .int .i64 mx] 24)) wr) (fun iv _ => kids.len - (RowKit.intOf iv).toNat)
    case atStart => exact ⟨0, .nil, kids, Lib.hid rfl, Lib.hid rfl, rfl, Lib.hid (by first | trivial | rfl), Below.refl _ _⟩
    case round =>
      obtain ⟨q, dn, r, hk, hq, rfl, hno, hb⟩ := hrel
      have hlen := Lib.hid (show kids.len = q + r.len by rw [hk.out, Fo.app_len, hq.out])
      obtain ⟨hx0, hx1, hx2, hx3, hx4⟩ := box_cells _ _ _ _ _ _ _ hb
      have hb0 := box_below hb
      have hws : w.heap.size + 1 ≤ wr.heap.size := by have := hb.size; simpa using this
      cases r with
      | nil =>
        have hlt : ¬ (q : Int) < kids.len := by have := hlen.out; simp only [Fo.len] at this; omega
        go_wp2_with fail
        go_ret
        exact ⟨by rw [HE.out]; rfl, hb0⟩
      | cons k1 l1 d1 mn1 mx1 r1 =>
        have hlt : (q : Int) < kids.len := by have := hlen.out; simp only [Fo.len] at this; omega
        have hq0 : (0 : Int) ≤ q := by omega
        obtain ⟨b0, o0, hA0⟩ := Nd.first (a := ⟨0, l, A, c, mn, mx, kids⟩) HA.out hk.out
        simp only at hA0
        subst hA0
        have h3 := HA.out.below hb0
        rw [hk.out] at h3
        obtain ⟨K1, c1, hcel, hc3, hc4, hat1⟩ := h3.nth hq.out
        have hcel1 := hcel.1
        have hcel2 := hcel.2.1
        have hcel3 := hcel.2.2.1
        have hcel4 := hcel.2.2.2.1
        have hcel5 := hcel.2.2.2.2
        have hkk := Lib.hid (show kids = (dn.app (.cons k1 l1 d1 mn1 mx1 .nil)).app r1 by rw [hk.out, Fo.app_assoc]; rfl)
        have hqq := Lib.hid (show (dn.app (.cons k1 l1 d1 mn1 mx1 .nil)).len = q + 1 by rw [Fo.app_len, hq.out]; rfl)
        obtain ⟨hy0, hy1, hy2, hy3, hy4⟩ := box_cells _ _ _ _ _ _ _ (hb.trans ((HB1.out wr (.cells #[.int .i64 k1, .string l1, .slice K1 d1.len c1, .int .i64 mn1, .int .i64 mx1] 24)).mono hws))
        clear hcel h3 hat1 hx0 hx1 hx2 hx3 hx4 hy1 hy2 hy3 hy4
        cases t7 : k1 == 9
        · have hnn := Lib.hid trivial
          go_wp2_with fail
          exact ⟨⟨q + 1, _, r1, hkk, hqq, by go_num, hnn, hb.trans ((HB1.out _ _).mono hws)⟩, by simp [RowKit.intOf]; omega⟩
        · have hnn := Lib.hid trivial
          go_wp2_with fail
          exact ⟨⟨q + 1, _, r1, hkk, hqq, by go_num, hnn, hb.trans ((HB1.out _ _).mono hws)⟩, by simp [RowKit.intOf]; omega⟩
  · have ta : decide (mn < 0) = false := decide_eq_false (by omega)
    have tb : decide (mn > 8) = true := decide_eq_true (by omega)
    have hrb : repB mn mx = true := by simp [repB]; omega
    rw [hrb] at HE
    clear hrb h1 h2
    go_enter Tryz.func84, Tryz.ntmps84
    go_wp2_with (go_at_call 104; (with_reducible refine (HC.out _).mono ?_); rintro e w2 ⟨rfl, rfl⟩)
    go_loopw [34] (fun iv wr => ∃ (q : Nat) (dn r : Fo), Hid (kids = dn.app r) ∧ Hid (dn.len = q) ∧ iv = .int .i64 q ∧ Hid True ∧ Below (w.heap.size + 1) (w.alloc (.cells #[.int .i64 9, .string l, .slice A kids.len c, .int .i64 mn, .int .i64 mx] 24)) wr) (fun iv _ => kids.len - (RowKit.intOf iv).toNat)
    case atStart => exact ⟨0, .nil, kids, Lib.hid rfl, Lib.hid rfl, rfl, Lib.hid (by first | trivial | rfl), Below.refl _ _⟩
    case round =>
      obtain ⟨q, dn, r, hk, hq, rfl, hno, hb⟩ := hrel
      have hlen := Lib.hid (show kids.len = q + r.len by rw [hk.out, Fo.app_len, hq.out])
      obtain ⟨hx0, hx1, hx2, hx3, hx4⟩ := box_cells _ _ _ _ _ _ _ hb
      have hb0 := box_below hb
      have hws : w.heap.size + 1 ≤ wr.heap.size := by have := hb.size; simpa using this
      cases r with
      | nil =>
        have hlt : ¬ (q : Int) < kids.len := by have := hlen.out; simp only [Fo.len] at this; omega
        go_wp2_with fail
        go_ret
        exact ⟨by rw [HE.out]; rfl, hb0⟩
      | cons k1 l1 d1 mn1 mx1 r1 =>
        have hlt : (q : Int) < kids.len := by have := hlen.out; simp only [Fo.len] at this; omega
        have hq0 : (0 : Int) ≤ q := by omega
        obtain ⟨b0, o0, hA0⟩ := Nd.first (a := ⟨0, l, A, c, mn, mx, kids⟩) HA.out hk.out
        simp only at hA0
        subst hA0
        have h3 := HA.out.below hb0
        rw [hk.out] at h3
        obtain ⟨K1, c1, hcel, hc3, hc4, hat1⟩ := h3.nth hq.out
        have hcel1 := hcel.1
        have hcel2 := hcel.2.1
        have hcel3 := hcel.2.2.1
        have hcel4 := hcel.2.2.2.1
        have hcel5 := hcel.2.2.2.2
        have hkk := Lib.hid (show kids = (dn.app (.cons k1 l1 d1 mn1 mx1 .nil)).app r1 by rw [hk.out, Fo.app_assoc]; rfl)
        have hqq := Lib.hid (show (dn.app (.cons k1 l1 d1 mn1 mx1 .nil)).len = q + 1 by rw [Fo.app_len, hq.out]; rfl)
        obtain ⟨hy0, hy1, hy2, hy3, hy4⟩ := box_cells _ _ _ _ _ _ _ (hb.trans ((HB1.out wr (.cells #[.int .i64 k1, .string l1, .slice K1 d1.len c1, .int .i64 mn1, .int .i64 mx1] 24)).mono hws))
        clear hcel h3 hat1 hx0 hx1 hx2 hx3 hx4 hy1 hy2 hy3 hy4
        cases t7 : k1 == 9
        · have hnn := Lib.hid trivial
          go_wp2_with fail
          exact ⟨⟨q + 1, _, r1, hkk, hqq, by go_num, hnn, hb.trans ((HB1.out _ _).mono hws)⟩, by simp [RowKit.intOf]; omega⟩
        · have hnn := Lib.hid trivial
          go_wp2_with fail
          exact ⟨⟨q + 1, _, r1, hkk, hqq, by go_num, hnn, hb.trans ((HB1.out _ _).mono hws)⟩, by simp [RowKit.intOf]; omega⟩
  · have ta : decide (mn < 0) = false := decide_eq_false (by omega)
    have tb : decide (mn > 8) = false := decide_eq_false (by omega)
    have tc : (mx != -1) = false := by simp; omega
    have hrb : repB mn mx = false := by simp [repB]; omega
    rw [hrb] at HE
    clear hrb h1 h2 h3
    go_enter Tryz.func84, Tryz.ntmps84
    go_wp2_with (go_at_call 104; (with_reducible refine (HC.out _).mono ?_); rintro e w2 ⟨rfl, rfl⟩)
    go_loopw [34] (fun iv wr => ∃ (q : Nat) (dn r : Fo), Hid (kids = dn.app r) ∧ Hid (dn.len = q) ∧ iv = .int .i64 q ∧ Hid True ∧ Below (w.heap.size + 1) (w.alloc (.cells #[.int .i64 9, .string l, .slice A kids.len c, .int .i64 mn, .int .i64 mx] 24)) wr) (fun iv _ => kids.len - (RowKit.intOf iv).toNat)
    case atStart => exact ⟨0, .nil, kids, Lib.hid rfl, Lib.hid rfl, rfl, Lib.hid (by first | trivial | rfl), Below.refl _ _⟩
    case round =>
      obtain ⟨q, dn, r, hk, hq, rfl, hno, hb⟩ := hrel
      have hlen := Lib.hid (show kids.len = q + r.len by rw [hk.out, Fo.app_len, hq.out])
      obtain ⟨hx0, hx1, hx2, hx3, hx4⟩ := box_cells _ _ _ _ _ _ _ hb
      have hb0 := box_below hb
      have hws : w.heap.size + 1 ≤ wr.heap.size := by have := hb.size; simpa using this
      cases r with
      | nil =>
        have hlt : ¬ (q : Int) < kids.len := by have := hlen.out; simp only [Fo.len] at this; omega
        go_wp2_with fail
        go_ret
        exact ⟨by rw [HE.out]; rfl, hb0⟩
      | cons k1 l1 d1 mn1 mx1 r1 =>
        have hlt : (q : Int) < kids.len := by have := hlen.out; simp only [Fo.len] at this; omega
        have hq0 : (0 : Int) ≤ q := by omega
        obtain ⟨b0, o0, hA0⟩ := Nd.first (a := ⟨0, l, A, c, mn, mx, kids⟩) HA.out hk.out
        simp only at hA0
        subst hA0
        have h3 := HA.out.below hb0
        rw [hk.out] at h3
        obtain ⟨K1, c1, hcel, hc3, hc4, hat1⟩ := h3.nth hq.out
        have hcel1 := hcel.1
        have hcel2 := hcel.2.1
        have hcel3 := hcel.2.2.1
        have hcel4 := hcel.2.2.2.1
        have hcel5 := hcel.2.2.2.2
        have hkk := Lib.hid (show kids = (dn.app (.cons k1 l1 d1 mn1 mx1 .nil)).app r1 by rw [hk.out, Fo.app_assoc]; rfl)
        have hqq := Lib.hid (show (dn.app (.cons k1 l1 d1 mn1 mx1 .nil)).len = q + 1 by rw [Fo.app_len, hq.out]; rfl)
        obtain ⟨hy0, hy1, hy2, hy3, hy4⟩ := box_cells _ _ _ _ _ _ _ (hb.trans ((HB1.out wr (.cells #[.int .i64 k1, .string l1, .slice K1 d1.len c1, .int .i64 mn1, .int .i64 mx1] 24)).mono hws))
        clear hcel h3 hat1 hx0 hx1 hx2 hx3 hx4 hy1 hy2 hy3 hy4
        cases t7 : k1 == 9
        · have hnn := Lib.hid trivial
          go_wp2_with fail
          exact ⟨⟨q + 1, _, r1, hkk, hqq, by go_num, hnn, hb.trans ((HB1.out _ _).mono hws)⟩, by simp [RowKit.intOf]; omega⟩
        · have hnn := Lib.hid trivial
          go_wp2_with fail
          exact ⟨⟨q + 1, _, r1, hkk, hqq, by go_num, hnn, hb.trans ((HB1.out _ _).mono hws)⟩, by simp [RowKit.intOf]; omega⟩
  · have ta : decide (mn < 0) = false := decide_eq_false (by omega)
    have tb : decide (mn > 8) = false := decide_eq_false (by omega)
    have tc : (mx != -1) = true := by simp; omega
    have td : decide (mx < mn) = true := decide_eq_true (by omega)
    have hrb : repB mn mx = true := by simp [repB]; omega
    rw [hrb] at HE
    clear hrb h1 h2 h3 h4
    go_enter Tryz.func84, Tryz.ntmps84
    go_wp2_with (go_at_call 104; (with_reducible refine (HC.out _).mono ?_); rintro e w2 ⟨rfl, rfl⟩)
    go_loopw [34] (fun iv wr => ∃ (q : Nat) (dn r : Fo), Hid (kids = dn.app r) ∧ Hid (dn.len = q) ∧ iv = .int .i64 q ∧ Hid True ∧ Below (w.heap.size + 1) (w.alloc (.cells #[.int .i64 9, .string l, .slice A kids.len c, .int .i64 mn, .int .i64 mx] 24)) wr) (fun iv _ => kids.len - (RowKit.intOf iv).toNat)
    case atStart => exact ⟨0, .nil, kids, Lib.hid rfl, Lib.hid rfl, rfl, Lib.hid (by first | trivial | rfl), Below.refl _ _⟩
    case round =>
      obtain ⟨q, dn, r, hk, hq, rfl, hno, hb⟩ := hrel
      have hlen := Lib.hid (show kids.len = q + r.len by rw [hk.out, Fo.app_len, hq.out])
      obtain ⟨hx0, hx1, hx2, hx3, hx4⟩ := box_cells _ _ _ _ _ _ _ hb
      have hb0 := box_below hb
      have hws : w.heap.size + 1 ≤ wr.heap.size := by have := hb.size; simpa using this
      cases r with
      | nil =>
        have hlt : ¬ (q : Int) < kids.len := by have := hlen.out; simp only [Fo.len] at this; omega
        go_wp2_with fail
        go_ret
        exact ⟨by rw [HE.out]; rfl, hb0⟩
      | cons k1 l1 d1 mn1 mx1 r1 =>
        have hlt : (q : Int) < kids.len := by have := hlen.out; simp only [Fo.len] at this; omega
        have hq0 : (0 : Int) ≤ q := by omega
        obtain ⟨b0, o0, hA0⟩ := Nd.first (a := ⟨0, l, A, c, mn, mx, kids⟩) HA.out hk.out
        simp only at hA0
        subst hA0
        have h3 := HA.out.below hb0
        rw [hk.out] at h3
        obtain ⟨K1, c1, hcel, hc3, hc4, hat1⟩ := h3.nth hq.out
        have hcel1 := hcel.1
        have hcel2 := hcel.2.1
        have hcel3 := hcel.2.2.1
        have hcel4 := hcel.2.2.2.1
        have hcel5 := hcel.2.2.2.2
        have hkk := Lib.hid (show kids = (dn.app (.cons k1 l1 d1 mn1 mx1 .nil)).app r1 by rw [hk.out, Fo.app_assoc]; rfl)
        have hqq := Lib.hid (show (dn.app (.cons k1 l1 d1 mn1 mx1 .nil)).len = q + 1 by rw [Fo.app_len, hq.out]; rfl)
        obtain ⟨hy0, hy1, hy2, hy3, hy4⟩ := box_cells _ _ _ _ _ _ _ (hb.trans ((HB1.out wr (.cells #[.int .i64 k1, .string l1, .slice K1 d1.len c1, .int .i64 mn1, .int .i64 mx1] 24)).mono hws))
        clear hcel h3 hat1 hx0 hx1 hx2 hx3 hx4 hy1 hy2 hy3 hy4
        cases t7 : k1 == 9
        · have hnn := Lib.hid trivial
          go_wp2_with fail
          exact ⟨⟨q + 1, _, r1, hkk, hqq, by go_num, hnn, hb.trans ((HB1.out _ _).mono hws)⟩, by simp [RowKit.intOf]; omega⟩
        · have hnn := Lib.hid trivial
          go_wp2_with fail
          exact ⟨⟨q + 1, _, r1, hkk, hqq, by go_num, hnn, hb.trans ((HB1.out _ _).mono hws)⟩, by simp [RowKit.intOf]; omega⟩
  · have ta : decide (mn < 0) = false := decide_eq_false (by omega)
    have tb : decide (mn > 8) = false := decide_eq_false (by omega)
    have tc : (mx != -1) = true := by simp; omega
    have td : decide (mx < mn) = false := decide_eq_false (by omega)
    have te : decide (mx < 1) = true := decide_eq_true (by omega)
    have hrb : repB mn mx = true := by simp [repB]; omega
    rw [hrb] at HE
    clear hrb h1 h2 h3 h4 h5
    go_enter Tryz.func84, Tryz.ntmps84
    go_wp2_with (go_at_call 104; (with_reducible refine (HC.out _).mono ?_); rintro e w2 ⟨rfl, rfl⟩)
    go_loopw [34] (fun iv wr => ∃ (q : Nat) (dn r : Fo), Hid (kids = dn.app r) ∧ Hid (dn.len = q) ∧ iv = .int .i64 q ∧ Hid True ∧ Below (w.heap.size + 1) (w.alloc (.cells #[.int .i64 9, .string l, .slice A kids.len c, .int .i64 mn, .int .i64 mx] 24)) wr) (fun iv _ => kids.len - (RowKit.intOf iv).toNat)
    case atStart => exact ⟨0, .nil, kids, Lib.hid rfl, Lib.hid rfl, rfl, Lib.hid (by first | trivial | rfl), Below.refl _ _⟩
    case round =>
      obtain ⟨q, dn, r, hk, hq, rfl, hno, hb⟩ := hrel
      have hlen := Lib.hid (show kids.len = q + r.len by rw [hk.out, Fo.app_len, hq.out])
      obtain ⟨hx0, hx1, hx2, hx3, hx4⟩ := box_cells _ _ _ _ _ _ _ hb
      have hb0 := box_below hb
      have hws : w.heap.size + 1 ≤ wr.heap.size := by have := hb.size; simpa using this
      cases r with
      | nil =>
        have hlt : ¬ (q : Int) < kids.len := by have := hlen.out; simp only [Fo.len] at this; omega
        go_wp2_with fail
        go_ret
        exact ⟨by rw [HE.out]; rfl, hb0⟩
      | cons k1 l1 d1 mn1 mx1 r1 =>
        have hlt : (q : Int) < kids.len := by have := hlen.out; simp only [Fo.len] at this; omega
        have hq0 : (0 : Int) ≤ q := by omega
        obtain ⟨b0, o0, hA0⟩ := Nd.first (a := ⟨0, l, A, c, mn, mx, kids⟩) HA.out hk.out
        simp only at hA0
        subst hA0
        have h3 := HA.out.below hb0
        rw [hk.out] at h3
        obtain ⟨K1, c1, hcel, hc3, hc4, hat1⟩ := h3.nth hq.out
        have hcel1 := hcel.1
        have hcel2 := hcel.2.1
        have hcel3 := hcel.2.2.1
        have hcel4 := hcel.2.2.2.1
        have hcel5 := hcel.2.2.2.2
        have hkk := Lib.hid (show kids = (dn.app (.cons k1 l1 d1 mn1 mx1 .nil)).app r1 by rw [hk.out, Fo.app_assoc]; rfl)
        have hqq := Lib.hid (show (dn.app (.cons k1 l1 d1 mn1 mx1 .nil)).len = q + 1 by rw [Fo.app_len, hq.out]; rfl)
        obtain ⟨hy0, hy1, hy2, hy3, hy4⟩ := box_cells _ _ _ _ _ _ _ (hb.trans ((HB1.out wr (.cells #[.int .i64 k1, .string l1, .slice K1 d1.len c1, .int .i64 mn1, .int .i64 mx1] 24)).mono hws))
        clear hcel h3 hat1 hx0 hx1 hx2 hx3 hx4 hy1 hy2 hy3 hy4
        cases t7 : k1 == 9
        · have hnn := Lib.hid trivial
          go_wp2_with fail
          exact ⟨⟨q + 1, _, r1, hkk, hqq, by go_num, hnn, hb.trans ((HB1.out _ _).mono hws)⟩, by simp [RowKit.intOf]; omega⟩
        · have hnn := Lib.hid trivial
          go_wp2_with fail
          exact ⟨⟨q + 1, _, r1, hkk, hqq, by go_num, hnn, hb.trans ((HB1.out _ _).mono hws)⟩, by simp [RowKit.intOf]; omega⟩
  · have ta : decide (mn < 0) = false := decide_eq_false (by omega)
    have tb : decide (mn > 8) = false := decide_eq_false (by omega)
    have tc : (mx != -1) = true := by simp; omega
    have td : decide (mx < mn) = false := decide_eq_false (by omega)
    have te : decide (mx < 1) = false := decide_eq_false (by omega)
    have tf : decide (mx > 8) = true := decide_eq_true (by omega)
    have hrb : repB mn mx = true := by simp [repB]; omega
    rw [hrb] at HE
    clear hrb h1 h2 h3 h4 h5 h6
    go_enter Tryz.func84, Tryz.ntmps84
    go_wp2_with (go_at_call 104; (with_reducible refine (HC.out _).mono ?_); rintro e w2 ⟨rfl, rfl⟩)
    go_loopw [34] (fun iv wr => ∃ (q : Nat) (dn r : Fo), Hid (kids = dn.app r) ∧ Hid (dn.len = q) ∧ iv = .int .i64 q ∧ Hid True ∧ Below (w.heap.size + 1) (w.alloc (.cells #[.int .i64 9, .string l, .slice A kids.len c, .int .i64 mn, .int .i64 mx] 24)) wr) (fun iv _ => kids.len - (RowKit.intOf iv).toNat)
    case atStart => exact ⟨0, .nil, kids, Lib.hid rfl, Lib.hid rfl, rfl, Lib.hid (by first | trivial | rfl), Below.refl _ _⟩
    case round =>
      obtain ⟨q, dn, r, hk, hq, rfl, hno, hb⟩ := hrel
      have hlen := Lib.hid (show kids.len = q + r.len by rw [hk.out, Fo.app_len, hq.out])
      obtain ⟨hx0, hx1, hx2, hx3, hx4⟩ := box_cells _ _ _ _ _ _ _ hb
      have hb0 := box_below hb
      have hws : w.heap.size + 1 ≤ wr.heap.size := by have := hb.size; simpa using this
      cases r with
      | nil =>
        have hlt : ¬ (q : Int) < kids.len := by have := hlen.out; simp only [Fo.len] at this; omega
        go_wp2_with fail
        go_ret
        exact ⟨by rw [HE.out]; rfl, hb0⟩
      | cons k1 l1 d1 mn1 mx1 r1 =>
        have hlt : (q : Int) < kids.len := by have := hlen.out; simp only [Fo.len] at this; omega
        have hq0 : (0 : Int) ≤ q := by omega
        obtain ⟨b0, o0, hA0⟩ := Nd.first (a := ⟨0, l, A, c, mn, mx, kids⟩) HA.out hk.out
        simp only at hA0
        subst hA0
        have h3 := HA.out.below hb0
        rw [hk.out] at h3
        obtain ⟨K1, c1, hcel, hc3, hc4, hat1⟩ := h3.nth hq.out
        have hcel1 := hcel.1
        have hcel2 := hcel.2.1
        have hcel3 := hcel.2.2.1
        have hcel4 := hcel.2.2.2.1
        have hcel5 := hcel.2.2.2.2
        have hkk := Lib.hid (show kids = (dn.app (.cons k1 l1 d1 mn1 mx1 .nil)).app r1 by rw [hk.out, Fo.app_assoc]; rfl)
        have hqq := Lib.hid (show (dn.app (.cons k1 l1 d1 mn1 mx1 .nil)).len = q + 1 by rw [Fo.app_len, hq.out]; rfl)
        obtain ⟨hy0, hy1, hy2, hy3, hy4⟩ := box_cells _ _ _ _ _ _ _ (hb.trans ((HB1.out wr (.cells #[.int .i64 k1, .string l1, .slice K1 d1.len c1, .int .i64 mn1, .int .i64 mx1] 24)).mono hws))
        clear hcel h3 hat1 hx0 hx1 hx2 hx3 hx4 hy1 hy2 hy3 hy4
        cases t7 : k1 == 9
        · have hnn := Lib.hid trivial
          go_wp2_with fail
          exact ⟨⟨q + 1, _, r1, hkk, hqq, by go_num, hnn, hb.trans ((HB1.out _ _).mono hws)⟩, by simp [RowKit.intOf]; omega⟩
        · have hnn := Lib.hid trivial
          go_wp2_with fail
          exact ⟨⟨q + 1, _, r1, hkk, hqq, by go_num, hnn, hb.trans ((HB1.out _ _).mono hws)⟩, by simp [RowKit.intOf]; omega⟩
  · have ta : decide (mn < 0) = false := decide_eq_false (by omega)
    have tb : decide (mn > 8) = false := decide_eq_false (by omega)
    have tc : (mx != -1) = true := by simp; omega
    have td : decide (mx < mn) = false := decide_eq_false (by omega)
    have te : decide (mx < 1) = false := decide_eq_false (by omega)
    have tf : decide (mx > 8) = false := decide_eq_false (by omega)
    have hrb : repB mn mx = false := by simp [repB]; omega
    rw [hrb] at HE
    clear hrb h1 h2 h3 h4 h5 h6
    go_enter Tryz.func84, Tryz.ntmps84
    go_wp2_with (go_at_call 104; (with_reducible refine (HC.out _).mono ?_); rintro e w2 ⟨rfl, rfl⟩)
    go_loopw [34] (fun iv wr => ∃ (q : Nat) (dn r : Fo), Hid (kids = dn.app r) ∧ Hid (dn.len = q) ∧ iv = .int .i64 q ∧ Hid True ∧ Below (w.heap.size + 1) (w.alloc (.cells #[.int .i64 9, .string l, .slice A kids.len c, .int .i64 mn, .int .i64 mx] 24)) wr) (fun iv _ => kids.len - (RowKit.intOf iv).toNat)
    case atStart => exact ⟨0, .nil, kids, Lib.hid rfl, Lib.hid rfl, rfl, Lib.hid (by first | trivial | rfl), Below.refl _ _⟩
    case round =>
      obtain ⟨q, dn, r, hk, hq, rfl, hno, hb⟩ := hrel
      have hlen := Lib.hid (show kids.len = q + r.len by rw [hk.out, Fo.app_len, hq.out])
      obtain ⟨hx0, hx1, hx2, hx3, hx4⟩ := box_cells _ _ _ _ _ _ _ hb
      have hb0 := box_below hb
      have hws : w.heap.size + 1 ≤ wr.heap.size := by have := hb.size; simpa using this
      cases r with
      | nil =>
        have hlt : ¬ (q : Int) < kids.len := by have := hlen.out; simp only [Fo.len] at this; omega
        go_wp2_with fail
        go_ret
        exact ⟨by rw [HE.out]; rfl, hb0⟩
      | cons k1 l1 d1 mn1 mx1 r1 =>
        have hlt : (q : Int) < kids.len := by have := hlen.out; simp only [Fo.len] at this; omega
        have hq0 : (0 : Int) ≤ q := by omega
        obtain ⟨b0, o0, hA0⟩ := Nd.first (a := ⟨0, l, A, c, mn, mx, kids⟩) HA.out hk.out
        simp only at hA0
        subst hA0
        have h3 := HA.out.below hb0
        rw [hk.out] at h3
        obtain ⟨K1, c1, hcel, hc3, hc4, hat1⟩ := h3.nth hq.out
        have hcel1 := hcel.1
        have hcel2 := hcel.2.1
        have hcel3 := hcel.2.2.1
        have hcel4 := hcel.2.2.2.1
        have hcel5 := hcel.2.2.2.2
        have hkk := Lib.hid (show kids = (dn.app (.cons k1 l1 d1 mn1 mx1 .nil)).app r1 by rw [hk.out, Fo.app_assoc]; rfl)
        have hqq := Lib.hid (show (dn.app (.cons k1 l1 d1 mn1 mx1 .nil)).len = q + 1 by rw [Fo.app_len, hq.out]; rfl)
        obtain ⟨hy0, hy1, hy2, hy3, hy4⟩ := box_cells _ _ _ _ _ _ _ (hb.trans ((HB1.out wr (.cells #[.int .i64 k1, .string l1, .slice K1 d1.len c1, .int .i64 mn1, .int .i64 mx1] 24)).mono hws))
        clear hcel h3 hat1 hx0 hx1 hx2 hx3 hx4 hy1 hy2 hy3 hy4
        cases t7 : k1 == 9
        · have hnn := Lib.hid trivial
          go_wp2_with fail
          exact ⟨⟨q + 1, _, r1, hkk, hqq, by go_num, hnn, hb.trans ((HB1.out _ _).mono hws)⟩, by simp [RowKit.intOf]; omega⟩
        · have hnn := Lib.hid trivial
          go_wp2_with fail
          exact ⟨⟨q + 1, _, r1, hkk, hqq, by go_num, hnn, hb.trans ((HB1.out _ _).mono hws)⟩, by simp [RowKit.intOf]; omega⟩
theorem one_any (a : Nd) (X : List Nat) (w : World) (h : a.ok w X) : Calls Tryz.prog 84 #[a.v] w fun e w' => e = .returned (.int .i64 (oneE a.k a.l a.kids a.mn a.mx)) ∧ Below w.heap.size w w' := by
  by_cases hT : kindB a.k = false ∨ (a.kids.len : Int) < leastI a.k ∨ mostI a.k < (a.kids.len : Int)
  · exact one_few a w hT
  · obtain ⟨k, l, A, c, mn, mx, kids⟩ := a
    obtain ⟨h1, h2, h3⟩ := h
    simp only [not_or] at hT h1 h2 h3
    have hk : kindB k = true := by cases e : kindB k; exact absurd e hT.1; rfl
    have hL : leastI k ≤ (kids.len : Int) := by omega
    have hM : (kids.len : Int) ≤ mostI k := by omega
    simp only [kindB, Bool.and_eq_true, decide_eq_true_eq] at hk
    rcases (show k = 1 ∨ k = 2 ∨ k = 3 ∨ k = 4 ∨ k = 5 ∨ k = 6 ∨ k = 7 ∨ k = 8 ∨ k = 9 from by omega) with rfl | rfl | rfl | rfl | rfl | rfl | rfl | rfl | rfl
    · exact one_1 l A c mn mx kids X w h1 h2 h3 hL hM
    · exact one_2 l A c mn mx kids X w h1 h2 h3 hL hM
    · exact one_3 l A c mn mx kids X w h1 h2 h3 hL hM
    · exact one_4 l A c mn mx kids X w h1 h2 h3 hL hM
    · exact one_5 l A c mn mx kids X w h1 h2 h3 hL hM
    · exact one_6 l A c mn mx kids X w h1 h2 h3 hL hM
    · exact one_7 l A c mn mx kids X w h1 h2 h3 hL hM
    · exact one_8 l A c mn mx kids X w h1 h2 h3 hL hM
    · exact one_9 l A c mn mx kids X w h1 h2 h3 hL hM
end Go.Proofs.YtpaehicfndkliaaGreatDoor.Pa
