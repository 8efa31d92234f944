import Derived.Test.YtpaehicfndkliaaGreatDoorDc
import Derived.LoopTactic
import Derived.Defers
import Derived.Recover
import Derived.RegionTactic

/- The walks of 'Out', 'may'. Condition: the path can be read. -/
namespace Go.Proofs.YtpaehicfndkliaaGreatDoor.De
open Go.RowKit Go.Lib Na Go.PN Pa

def kindN (k : Int) (n : Nat) : Bool := if k = 1 ∨ k = 2 ∨ k = 3 then decide (n = 0) else if k = 4 ∨ k = 5 then decide (n = 2) else if k = 6 then decide (n = 1) else false
/-- Is each path of a row plain, and none too deep? -/
def mayL : Fo → Int → Bool
  | .nil, _ => true
  | .cons k _ d _ _ r, at_ => (kindN k d.len && decide (at_ ≤ 400) && mayL d (at_ + 1)) && mayL r at_
theorem mayL_cons (k : Int) (l : ByteArray) (d : Fo) (mn mx : Int) (r : Fo) (at_ : Int) : mayL (.cons k l d mn mx r) at_ = (mayL (.cons k l d mn mx .nil) at_ && mayL r at_) := by simp [mayL]
theorem may_one (k : Int) (l : ByteArray) (d : Fo) (mn mx : Int) (at_ : Int) : mayL (.cons k l d mn mx .nil) at_ = (kindN k d.len && decide (at_ ≤ 400) && mayL d (at_ + 1)) := by simp [mayL]
/-- One has left with a code. -/
def Left1 (code : Int) (w : World) (e : Ending) (w' : World) : Prop :=
  ∃ (b : Nat) (x : Int), e = .panicked [{ v := .iface 66 (.pointer (some ⟨b, 0, none⟩)), recovered := false }] ∧ w'.cell? ⟨b, 0, none⟩ = some (.int .i64 code) ∧ w'.cell? ⟨b, 1, none⟩ = some (.int .i64 x) ∧ w.heap.size ≤ b ∧ Below w.heap.size w w'
def MayP (w : World) (B : Bool) (e : Ending) (w' : World) : Prop :=
  match B with
  | true => e = .returned (.tuple #[]) ∧ Below w.heap.size w w'
  | false => Left1 1 w e w'
theorem MayP.after {w w1 : World} {B : Bool} {e : Ending} {w' : World} (hb : Below w.heap.size w w1) (h : MayP w1 B e w') : MayP w B e w' := by
  cases B with
  | true => exact ⟨h.1, hb.trans (h.2.mono hb.size)⟩
  | false =>
    obtain ⟨b, x, h1, h2, h3, h4, h5⟩ := h
    exact ⟨b, x, h1, h2, h3, Nat.le_trans hb.size h4, hb.trans (h5.mono hb.size)⟩
theorem out1 (code x : Int) (w : World) : Calls Tryz.prog 71 #[.int .i64 code, .int .i64 x] w fun e w' => e = .panicked [{ v := .iface 66 (.pointer (some ⟨w.heap.size, 0, none⟩)), recovered := false }] ∧ w' = w.alloc (.cells #[.int .i64 code, .int .i64 x] 68) := by
  go_enter Tryz.func71, Tryz.ntmps71
  go_wp2
  exact ⟨rfl, rfl, rfl⟩
/-- How one leaves a call that has laid a box. -/
theorem left_out {w : World} {o : Obj} {code x : Int} : Left1 code w (.panicked [{ v := .iface 66 (.pointer (some ⟨w.heap.size + 1, 0, none⟩)), recovered := false }]) ((w.alloc o).alloc (.cells #[.int .i64 code, .int .i64 x] 68)) := by
  refine ⟨w.heap.size + 1, x, rfl, ?_, ?_, by omega, ((Below.refl _ w).alloc (Nat.le_refl _) _).alloc (by simp) _⟩ <;> go_simp
set_option maxRecDepth 100000 in
set_option maxHeartbeats 16000000 in
theorem may_1 (n : Nat) (ih : ∀ (a : Nd) (X : List Nat) (at_ : Int) (w : World), a.kids.sz < n → a.ok w X → 1 ≤ at_ → at_ ≤ 401 → Calls Tryz.prog 37 #[a.v, .int .i64 at_] w (MayP w (mayL (a.fo .nil) at_)))
    (l : ByteArray) (A : Option Addr) (c : Nat) (mn mx : Int) (kids : Fo) (X : List Nat) (at_ : Int) (w : World) (hn : kids.sz ≤ n) (hc : kids.len ≤ c) (hc2 : c ≤ 9223372036854775807) (hat : At w X kids A) (h1 : 1 ≤ at_) (h2 : at_ ≤ 401) :
    Calls Tryz.prog 37 #[.agg #[.int .i64 1, .string l, .slice A kids.len c, .int .i64 mn, .int .i64 mx], .int .i64 at_] w (MayP w (mayL (.cons 1 l kids mn mx .nil) at_)) := by
  have HO := Lib.hid (fun (x : Int) w => out1 1 x w)
  have HN := Lib.hid hn
  have HA := Lib.hid hat
  have IH := Lib.hid ih
  have HLO := Lib.hid (fun (x : Int) (o : Obj) => left_out (w := w) (o := o) (code := 1) (x := x))
  clear hn hat ih
  by_cases hl : kids.len = 0
  · by_cases h4 : at_ ≤ 400
    · have HE := Lib.hid (show mayL (.cons 1 l kids mn mx .nil) at_ = mayL kids (at_ + 1) by rw [may_one]; unfold kindN; rw [hl]; simp [h4])
      have t4 : decide (at_ > 400) = false := decide_eq_false (by omega)
      have HB0 := Lib.hid (show Below w.heap.size w (w.alloc (obj5 1 l A kids.len c mn mx)) from (Below.refl _ w).alloc (Nat.le_refl _) _)
      have HLL := Lib.hid hl
      generalize hBV : mayL (.cons 1 l kids mn mx .nil) at_ = BV at *
      clear hBV
      rw [hl] at hc ⊢
      clear hl
      go_enter Tryz.func37, Tryz.ntmps37
      go_wp2_with fail
      go_loopw [34] (fun iv wr => ∃ (q : Nat) (dn r : Fo), Hid (kids = dn.app r) ∧ Hid (dn.len = q) ∧ iv = .int .i64 q ∧ Hid (mayL r (at_ + 1) = mayL kids (at_ + 1)) ∧ Hid (Below w.heap.size w wr)) (fun iv _ => kids.len - (RowKit.intOf iv).toNat)
      case atStart => exact ⟨0, .nil, kids, Lib.hid rfl, Lib.hid rfl, rfl, Lib.hid rfl, by have := HB0.out; rw [HLL.out] at this; exact Lib.hid this⟩
      case round =>
        obtain ⟨q, dn, r, hk, hq, rfl, hr, HB⟩ := hrel
        have hlen := Lib.hid (show kids.len = q + r.len by rw [hk.out, Fo.app_len, hq.out])
        cases r with
        | nil =>
          have hlt : ¬ (q : Int) < 0 := by have := hlen.out; have := HLL.out; simp only [Fo.len] at *; omega
          have HT := Lib.hid (show BV = true by rw [HE.out, ← hr.out]; rfl)
          go_wp2_with fail
          first | go_end0 | skip
          rw [HT.out]
          exact ⟨rfl, HB.out⟩
        | cons k1 l1 d1 mn1 mx1 r1 =>
          have hlt : (q : Int) < 0 := by have := hlen.out; have := HLL.out; simp only [Fo.len] at *; omega
          exact absurd hlt (by omega)
    · have t4 : decide (at_ > 400) = true := decide_eq_true (by omega)
      have HE := Lib.hid (show mayL (.cons 1 l kids mn mx .nil) at_ = false by rw [may_one]; simp [h4])
      rw [HE.out, hl]
      rw [hl] at hc
      clear hl HE
      go_enter Tryz.func37, Tryz.ntmps37
      go_wp2_with (first | (go_at_call 71; (with_reducible refine (HO.out _ _).mono ?_); rintro e w' ⟨rfl, rfl⟩))
      exact ⟨rfl, HLO.out at_ _⟩
  · have HE := Lib.hid (show mayL (.cons 1 l kids mn mx .nil) at_ = false by rw [may_one]; unfold kindN; simp [hl])
    rw [HE.out]
    have tl : ((kids.len : Int) != 0) = true := by rw [bne_iff_ne]; omega
    have tl2 : ((kids.len : Int) == 0) = false := by rw [beq_eq_false_iff_ne]; omega
    clear HE hl
    generalize kids.len = KL at *
    go_enter Tryz.func37, Tryz.ntmps37
    go_wp2_with (first | (go_at_call 71; (with_reducible refine (HO.out _ _).mono ?_); rintro e w' ⟨rfl, rfl⟩))
    exact ⟨rfl, HLO.out at_ _⟩
set_option maxRecDepth 100000 in
set_option maxHeartbeats 16000000 in
theorem may_2 (n : Nat) (ih : ∀ (a : Nd) (X : List Nat) (at_ : Int) (w : World), a.kids.sz < n → a.ok w X → 1 ≤ at_ → at_ ≤ 401 → Calls Tryz.prog 37 #[a.v, .int .i64 at_] w (MayP w (mayL (a.fo .nil) at_)))
    (l : ByteArray) (A : Option Addr) (c : Nat) (mn mx : Int) (kids : Fo) (X : List Nat) (at_ : Int) (w : World) (hn : kids.sz ≤ n) (hc : kids.len ≤ c) (hc2 : c ≤ 9223372036854775807) (hat : At w X kids A) (h1 : 1 ≤ at_) (h2 : at_ ≤ 401) :
    Calls Tryz.prog 37 #[.agg #[.int .i64 2, .string l, .slice A kids.len c, .int .i64 mn, .int .i64 mx], .int .i64 at_] w (MayP w (mayL (.cons 2 l kids mn mx .nil) at_)) := by
  have HO := Lib.hid (fun (x : Int) w => out1 1 x w)
  have HN := Lib.hid hn
  have HA := Lib.hid hat
  have IH := Lib.hid ih
  have HLO := Lib.hid (fun (x : Int) (o : Obj) => left_out (w := w) (o := o) (code := 1) (x := x))
  clear hn hat ih
  by_cases hl : kids.len = 0
  · by_cases h4 : at_ ≤ 400
    · have HE := Lib.hid (show mayL (.cons 2 l kids mn mx .nil) at_ = mayL kids (at_ + 1) by rw [may_one]; unfold kindN; rw [hl]; simp [h4])
      have t4 : decide (at_ > 400) = false := decide_eq_false (by omega)
      have HB0 := Lib.hid (show Below w.heap.size w (w.alloc (obj5 2 l A kids.len c mn mx)) from (Below.refl _ w).alloc (Nat.le_refl _) _)
      have HLL := Lib.hid hl
      generalize hBV : mayL (.cons 2 l kids mn mx .nil) at_ = BV at *
      clear hBV
      rw [hl] at hc ⊢
      clear hl
      go_enter Tryz.func37, Tryz.ntmps37
      go_wp2_with fail
      go_loopw [34] (fun iv wr => ∃ (q : Nat) (dn r : Fo), Hid (kids = dn.app r) ∧ Hid (dn.len = q) ∧ iv = .int .i64 q ∧ Hid (mayL r (at_ + 1) = mayL kids (at_ + 1)) ∧ Hid (Below w.heap.size w wr)) (fun iv _ => kids.len - (RowKit.intOf iv).toNat)
      case atStart => exact ⟨0, .nil, kids, Lib.hid rfl, Lib.hid rfl, rfl, Lib.hid rfl, by have := HB0.out; rw [HLL.out] at this; exact Lib.hid this⟩
      case round =>
        obtain ⟨q, dn, r, hk, hq, rfl, hr, HB⟩ := hrel
        have hlen := Lib.hid (show kids.len = q + r.len by rw [hk.out, Fo.app_len, hq.out])
        cases r with
        | nil =>
          have hlt : ¬ (q : Int) < 0 := by have := hlen.out; have := HLL.out; simp only [Fo.len] at *; omega
          have HT := Lib.hid (show BV = true by rw [HE.out, ← hr.out]; rfl)
          go_wp2_with fail
          first | go_end0 | skip
          rw [HT.out]
          exact ⟨rfl, HB.out⟩
        | cons k1 l1 d1 mn1 mx1 r1 =>
          have hlt : (q : Int) < 0 := by have := hlen.out; have := HLL.out; simp only [Fo.len] at *; omega
          exact absurd hlt (by omega)
    · have t4 : decide (at_ > 400) = true := decide_eq_true (by omega)
      have HE := Lib.hid (show mayL (.cons 2 l kids mn mx .nil) at_ = false by rw [may_one]; simp [h4])
      rw [HE.out, hl]
      rw [hl] at hc
      clear hl HE
      go_enter Tryz.func37, Tryz.ntmps37
      go_wp2_with (first | (go_at_call 71; (with_reducible refine (HO.out _ _).mono ?_); rintro e w' ⟨rfl, rfl⟩))
      exact ⟨rfl, HLO.out at_ _⟩
  · have HE := Lib.hid (show mayL (.cons 2 l kids mn mx .nil) at_ = false by rw [may_one]; unfold kindN; simp [hl])
    rw [HE.out]
    have tl : ((kids.len : Int) != 0) = true := by rw [bne_iff_ne]; omega
    have tl2 : ((kids.len : Int) == 0) = false := by rw [beq_eq_false_iff_ne]; omega
    clear HE hl
    generalize kids.len = KL at *
    go_enter Tryz.func37, Tryz.ntmps37
    go_wp2_with (first | (go_at_call 71; (with_reducible refine (HO.out _ _).mono ?_); rintro e w' ⟨rfl, rfl⟩))
    exact ⟨rfl, HLO.out at_ _⟩
set_option maxRecDepth 100000 in
set_option maxHeartbeats 16000000 in
theorem may_3 (n : Nat) (ih : ∀ (a : Nd) (X : List Nat) (at_ : Int) (w : World), a.kids.sz < n → a.ok w X → 1 ≤ at_ → at_ ≤ 401 → Calls Tryz.prog 37 #[a.v, .int .i64 at_] w (MayP w (mayL (a.fo .nil) at_)))
    (l : ByteArray) (A : Option Addr) (c : Nat) (mn mx : Int) (kids : Fo) (X : List Nat) (at_ : Int) (w : World) (hn : kids.sz ≤ n) (hc : kids.len ≤ c) (hc2 : c ≤ 9223372036854775807) (hat : At w X kids A) (h1 : 1 ≤ at_) (h2 : at_ ≤ 401) :
    Calls Tryz.prog 37 #[.agg #[.int .i64 3, .string l, .slice A kids.len c, .int .i64 mn, .int .i64 mx], .int .i64 at_] w (MayP w (mayL (.cons 3 l kids mn mx .nil) at_)) := by
  have HO := Lib.hid (fun (x : Int) w => out1 1 x w)
  have HN := Lib.hid hn
  have HA := Lib.hid hat
  have IH := Lib.hid ih
  have HLO := Lib.hid (fun (x : Int) (o : Obj) => left_out (w := w) (o := o) (code := 1) (x := x))
  clear hn hat ih
  by_cases hl : kids.len = 0
  · by_cases h4 : at_ ≤ 400
    · have HE := Lib.hid (show mayL (.cons 3 l kids mn mx .nil) at_ = mayL kids (at_ + 1) by rw [may_one]; unfold kindN; rw [hl]; simp [h4])
      have t4 : decide (at_ > 400) = false := decide_eq_false (by omega)
      have HB0 := Lib.hid (show Below w.heap.size w (w.alloc (obj5 3 l A kids.len c mn mx)) from (Below.refl _ w).alloc (Nat.le_refl _) _)
      have HLL := Lib.hid hl
      generalize hBV : mayL (.cons 3 l kids mn mx .nil) at_ = BV at *
      clear hBV
      rw [hl] at hc ⊢
      clear hl
      go_enter Tryz.func37, Tryz.ntmps37
      go_wp2_with fail
      go_loopw [34] (fun iv wr => ∃ (q : Nat) (dn r : Fo), Hid (kids = dn.app r) ∧ Hid (dn.len = q) ∧ iv = .int .i64 q ∧ Hid (mayL r (at_ + 1) = mayL kids (at_ + 1)) ∧ Hid (Below w.heap.size w wr)) (fun iv _ => kids.len - (RowKit.intOf iv).toNat)
      case atStart => exact ⟨0, .nil, kids, Lib.hid rfl, Lib.hid rfl, rfl, Lib.hid rfl, by have := HB0.out; rw [HLL.out] at this; exact Lib.hid this⟩
      case round =>
        obtain ⟨q, dn, r, hk, hq, rfl, hr, HB⟩ := hrel
        have hlen := Lib.hid (show kids.len = q + r.len by rw [hk.out, Fo.app_len, hq.out])
        cases r with
        | nil =>
          have hlt : ¬ (q : Int) < 0 := by have := hlen.out; have := HLL.out; simp only [Fo.len] at *; omega
          have HT := Lib.hid (show BV = true by rw [HE.out, ← hr.out]; rfl)
          go_wp2_with fail
          first | go_end0 | skip
          rw [HT.out]
          exact ⟨rfl, HB.out⟩
        | cons k1 l1 d1 mn1 mx1 r1 =>
          have hlt : (q : Int) < 0 := by have := hlen.out; have := HLL.out; simp only [Fo.len] at *; omega
          exact absurd hlt (by omega)
    · have t4 : decide (at_ > 400) = true := decide_eq_true (by omega)
      have HE := Lib.hid (show mayL (.cons 3 l kids mn mx .nil) at_ = false by rw [may_one]; simp [h4])
      rw [HE.out, hl]
      rw [hl] at hc
      clear hl HE
      go_enter Tryz.func37, Tryz.ntmps37
      go_wp2_with (first | (go_at_call 71; (with_reducible refine (HO.out _ _).mono ?_); rintro e w' ⟨rfl, rfl⟩))
      exact ⟨rfl, HLO.out at_ _⟩
  · have HE := Lib.hid (show mayL (.cons 3 l kids mn mx .nil) at_ = false by rw [may_one]; unfold kindN; simp [hl])
    rw [HE.out]
    have tl : ((kids.len : Int) != 0) = true := by rw [bne_iff_ne]; omega
    have tl2 : ((kids.len : Int) == 0) = false := by rw [beq_eq_false_iff_ne]; omega
    clear HE hl
    generalize kids.len = KL at *
    go_enter Tryz.func37, Tryz.ntmps37
    go_wp2_with (first | (go_at_call 71; (with_reducible refine (HO.out _ _).mono ?_); rintro e w' ⟨rfl, rfl⟩))
    exact ⟨rfl, HLO.out at_ _⟩
set_option maxRecDepth 100000 in
set_option maxHeartbeats 16000000 in
theorem may_4 (n : Nat) (ih : ∀ (a : Nd) (X : List Nat) (at_ : Int) (w : World), a.kids.sz < n → a.ok w X → 1 ≤ at_ → at_ ≤ 401 → Calls Tryz.prog 37 #[a.v, .int .i64 at_] w (MayP w (mayL (a.fo .nil) at_)))
    (l : ByteArray) (A : Option Addr) (c : Nat) (mn mx : Int) (kids : Fo) (X : List Nat) (at_ : Int) (w : World) (hn : kids.sz ≤ n) (hc : kids.len ≤ c) (hc2 : c ≤ 9223372036854775807) (hat : At w X kids A) (h1 : 1 ≤ at_) (h2 : at_ ≤ 401) :
    Calls Tryz.prog 37 #[.agg #[.int .i64 4, .string l, .slice A kids.len c, .int .i64 mn, .int .i64 mx], .int .i64 at_] w (MayP w (mayL (.cons 4 l kids mn mx .nil) at_)) := by
  have HO := Lib.hid (fun (x : Int) w => out1 1 x w)
  have HN := Lib.hid hn
  have HA := Lib.hid hat
  have IH := Lib.hid ih
  have HLO := Lib.hid (fun (x : Int) (o : Obj) => left_out (w := w) (o := o) (code := 1) (x := x))
  clear hn hat ih
  by_cases hl : kids.len = 2
  · by_cases h4 : at_ ≤ 400
    · have HE := Lib.hid (show mayL (.cons 4 l kids mn mx .nil) at_ = mayL kids (at_ + 1) by rw [may_one]; unfold kindN; rw [hl]; simp [h4])
      have t4 : decide (at_ > 400) = false := decide_eq_false (by omega)
      have HB0 := Lib.hid (show Below w.heap.size w (w.alloc (obj5 4 l A kids.len c mn mx)) from (Below.refl _ w).alloc (Nat.le_refl _) _)
      have HLL := Lib.hid hl
      generalize hBV : mayL (.cons 4 l kids mn mx .nil) at_ = BV at *
      clear hBV
      rw [hl] at hc ⊢
      clear hl
      go_enter Tryz.func37, Tryz.ntmps37
      go_wp2_with fail
      go_loopw [34] (fun iv wr => ∃ (q : Nat) (dn r : Fo), Hid (kids = dn.app r) ∧ Hid (dn.len = q) ∧ iv = .int .i64 q ∧ Hid (mayL r (at_ + 1) = mayL kids (at_ + 1)) ∧ Hid (Below w.heap.size w wr)) (fun iv _ => kids.len - (RowKit.intOf iv).toNat)
      case atStart => exact ⟨0, .nil, kids, Lib.hid rfl, Lib.hid rfl, rfl, Lib.hid rfl, by have := HB0.out; rw [HLL.out] at this; exact Lib.hid this⟩
      case round =>
        obtain ⟨q, dn, r, hk, hq, rfl, hr, HB⟩ := hrel
        have hlen := Lib.hid (show kids.len = q + r.len by rw [hk.out, Fo.app_len, hq.out])
        cases r with
        | nil =>
          have hlt : ¬ (q : Int) < 2 := by have := hlen.out; have := HLL.out; simp only [Fo.len] at *; omega
          have HT := Lib.hid (show BV = true by rw [HE.out, ← hr.out]; rfl)
          go_wp2_with fail
          first | go_end0 | skip
          rw [HT.out]
          exact ⟨rfl, HB.out⟩
        | cons k1 l1 d1 mn1 mx1 r1 =>
          have hlt : (q : Int) < 2 := by have := hlen.out; have := HLL.out; simp only [Fo.len] at *; omega
          have hq0 : (0 : Int) ≤ q := by omega
          have hk2 : kids = dn.app (.cons k1 l1 d1 mn1 mx1 r1) := hk.out
          obtain ⟨b0, o0, rfl⟩ := at_shape HA.out (by have := hlen.out; simp only [Fo.len] at this; omega)
          have h3 := HA.out.below HB.out
          rw [hk2] at h3
          obtain ⟨K1, c1, hcel, hc3, hc4, hat1⟩ := h3.nth hq.out
          obtain ⟨e0, e1, e2, e3, e4⟩ := hcel
          have hsz : d1.sz < n := by
            have h5 := congrArg Fo.sz hk2
            rw [Fo.app_sz] at h5
            have h6 := HN.out
            simp only [Fo.sz] at h5
            omega
          have HCALL := Lib.hid (IH.out ⟨k1, l1, K1, c1, mn1, mx1, d1⟩ X (at_ + 1) (wr.alloc (obj5 k1 l1 K1 d1.len c1 mn1 mx1)) hsz (Nd.ok.al ⟨hc3, hc4, hat1⟩ _) (by omega) (by omega))
          unfold Nd.v Nd.fo at HCALL
          simp only at HCALL
          have HSB := Lib.hid (show Below wr.heap.size wr (wr.alloc (obj5 k1 l1 K1 d1.len c1 mn1 mx1)) from (Below.refl _ _).alloc (Nat.le_refl _) _)
          have hkk := Lib.hid (show kids = (dn.app (.cons k1 l1 d1 mn1 mx1 .nil)).app r1 by rw [hk2, Fo.app_assoc]; rfl)
          have hqq := Lib.hid (show (dn.app (.cons k1 l1 d1 mn1 mx1 .nil)).len = q + 1 by rw [Fo.app_len, hq.out]; rfl)
          have hr2 := hr.out
          rw [mayL_cons] at hr2
          clear hsz hat1 h3 hk2
          cases hv : mayL (.cons k1 l1 d1 mn1 mx1 .nil) (at_ + 1)
          · rw [hv] at HCALL hr2
            have HT := Lib.hid (show BV = false by rw [HE.out, ← hr2]; rfl)
            clear hv hr2
            go_wp2_with (first | (go_at_call 37; (with_reducible refine (HCALL.out).mono ?_); rintro e w2 ⟨bb, xx, rfl, hl1, hl2, hl3, hl4⟩))
            exact ⟨rfl, by
              rw [HT.out]
              exact ⟨bb, xx, rfl, hl1, hl2, Nat.le_trans (Nat.le_trans HB.out.size HSB.out.size) hl3, (HB.out.trans (HSB.out.mono HB.out.size)).trans (hl4.mono (Nat.le_trans HB.out.size HSB.out.size))⟩⟩
          · rw [hv] at HCALL hr2
            have hr3 := Lib.hid (show mayL r1 (at_ + 1) = mayL kids (at_ + 1) by rw [← hr2]; rfl)
            clear hv hr2
            go_wp2_with (first | (go_at_call 37; (with_reducible refine (HCALL.out).mono ?_); rintro e w2 ⟨rfl, hb2⟩; have HB2 := Lib.hid hb2; clear hb2))
            exact ⟨⟨q + 1, _, r1, hkk, hqq, by go_num, hr3, Lib.hid ((HB.out.trans (HSB.out.mono HB.out.size)).trans (HB2.out.mono (Nat.le_trans HB.out.size HSB.out.size)))⟩, by have := hlen.out; simp only [Fo.len] at this; simp [RowKit.intOf]; omega⟩
    · have t4 : decide (at_ > 400) = true := decide_eq_true (by omega)
      have HE := Lib.hid (show mayL (.cons 4 l kids mn mx .nil) at_ = false by rw [may_one]; simp [h4])
      rw [HE.out, hl]
      rw [hl] at hc
      clear hl HE
      go_enter Tryz.func37, Tryz.ntmps37
      go_wp2_with (first | (go_at_call 71; (with_reducible refine (HO.out _ _).mono ?_); rintro e w' ⟨rfl, rfl⟩))
      exact ⟨rfl, HLO.out at_ _⟩
  · have HE := Lib.hid (show mayL (.cons 4 l kids mn mx .nil) at_ = false by rw [may_one]; unfold kindN; simp [hl])
    rw [HE.out]
    have tl : ((kids.len : Int) != 2) = true := by rw [bne_iff_ne]; omega
    have tl2 : ((kids.len : Int) == 2) = false := by rw [beq_eq_false_iff_ne]; omega
    clear HE hl
    generalize kids.len = KL at *
    go_enter Tryz.func37, Tryz.ntmps37
    go_wp2_with (first | (go_at_call 71; (with_reducible refine (HO.out _ _).mono ?_); rintro e w' ⟨rfl, rfl⟩))
    exact ⟨rfl, HLO.out at_ _⟩
set_option maxRecDepth 100000 in
set_option maxHeartbeats 16000000 in
theorem may_5 (n : Nat) (ih : ∀ (a : Nd) (X : List Nat) (at_ : Int) (w : World), a.kids.sz < n → a.ok w X → 1 ≤ at_ → at_ ≤ 401 → Calls Tryz.prog 37 #[a.v, .int .i64 at_] w (MayP w (mayL (a.fo .nil) at_)))
    (l : ByteArray) (A : Option Addr) (c : Nat) (mn mx : Int) (kids : Fo) (X : List Nat) (at_ : Int) (w : World) (hn : kids.sz ≤ n) (hc : kids.len ≤ c) (hc2 : c ≤ 9223372036854775807) (hat : At w X kids A) (h1 : 1 ≤ at_) (h2 : at_ ≤ 401) :
    Calls Tryz.prog 37 #[.agg #[.int .i64 5, .string l, .slice A kids.len c, .int .i64 mn, .int .i64 mx], .int .i64 at_] w (MayP w (mayL (.cons 5 l kids mn mx .nil) at_)) := by
  have HO := Lib.hid (fun (x : Int) w => out1 1 x w)
  have HN := Lib.hid hn
  have HA := Lib.hid hat
  have IH := Lib.hid ih
  have HLO := Lib.hid (fun (x : Int) (o : Obj) => left_out (w := w) (o := o) (code := 1) (x := x))
  clear hn hat ih
  by_cases hl : kids.len = 2
  · by_cases h4 : at_ ≤ 400
    · have HE := Lib.hid (show mayL (.cons 5 l kids mn mx .nil) at_ = mayL kids (at_ + 1) by rw [may_one]; unfold kindN; rw [hl]; simp [h4])
      have t4 : decide (at_ > 400) = false := decide_eq_false (by omega)
      have HB0 := Lib.hid (show Below w.heap.size w (w.alloc (obj5 5 l A kids.len c mn mx)) from (Below.refl _ w).alloc (Nat.le_refl _) _)
      have HLL := Lib.hid hl
      generalize hBV : mayL (.cons 5 l kids mn mx .nil) at_ = BV at *
      clear hBV
      rw [hl] at hc ⊢
      clear hl
      go_enter Tryz.func37, Tryz.ntmps37
      go_wp2_with fail
      go_loopw [34] (fun iv wr => ∃ (q : Nat) (dn r : Fo), Hid (kids = dn.app r) ∧ Hid (dn.len = q) ∧ iv = .int .i64 q ∧ Hid (mayL r (at_ + 1) = mayL kids (at_ + 1)) ∧ Hid (Below w.heap.size w wr)) (fun iv _ => kids.len - (RowKit.intOf iv).toNat)
      case atStart => exact ⟨0, .nil, kids, Lib.hid rfl, Lib.hid rfl, rfl, Lib.hid rfl, by have := HB0.out; rw [HLL.out] at this; exact Lib.hid this⟩
      case round =>
        obtain ⟨q, dn, r, hk, hq, rfl, hr, HB⟩ := hrel
        have hlen := Lib.hid (show kids.len = q + r.len by rw [hk.out, Fo.app_len, hq.out])
        cases r with
        | nil =>
          have hlt : ¬ (q : Int) < 2 := by have := hlen.out; have := HLL.out; simp only [Fo.len] at *; omega
          have HT := Lib.hid (show BV = true by rw [HE.out, ← hr.out]; rfl)
          go_wp2_with fail
          first | go_end0 | skip
          rw [HT.out]
          exact ⟨rfl, HB.out⟩
        | cons k1 l1 d1 mn1 mx1 r1 =>
          have hlt : (q : Int) < 2 := by have := hlen.out; have := HLL.out; simp only [Fo.len] at *; omega
          have hq0 : (0 : Int) ≤ q := by omega
          have hk2 : kids = dn.app (.cons k1 l1 d1 mn1 mx1 r1) := hk.out
          obtain ⟨b0, o0, rfl⟩ := at_shape HA.out (by have := hlen.out; simp only [Fo.len] at this; omega)
          have h3 := HA.out.below HB.out
          rw [hk2] at h3
          obtain ⟨K1, c1, hcel, hc3, hc4, hat1⟩ := h3.nth hq.out
          obtain ⟨e0, e1, e2, e3, e4⟩ := hcel
          have hsz : d1.sz < n := by
            have h5 := congrArg Fo.sz hk2
            rw [Fo.app_sz] at h5
            have h6 := HN.out
            simp only [Fo.sz] at h5
            omega
          have HCALL := Lib.hid (IH.out ⟨k1, l1, K1, c1, mn1, mx1, d1⟩ X (at_ + 1) (wr.alloc (obj5 k1 l1 K1 d1.len c1 mn1 mx1)) hsz (Nd.ok.al ⟨hc3, hc4, hat1⟩ _) (by omega) (by omega))
          unfold Nd.v Nd.fo at HCALL
          simp only at HCALL
          have HSB := Lib.hid (show Below wr.heap.size wr (wr.alloc (obj5 k1 l1 K1 d1.len c1 mn1 mx1)) from (Below.refl _ _).alloc (Nat.le_refl _) _)
          have hkk := Lib.hid (show kids = (dn.app (.cons k1 l1 d1 mn1 mx1 .nil)).app r1 by rw [hk2, Fo.app_assoc]; rfl)
          have hqq := Lib.hid (show (dn.app (.cons k1 l1 d1 mn1 mx1 .nil)).len = q + 1 by rw [Fo.app_len, hq.out]; rfl)
          have hr2 := hr.out
          rw [mayL_cons] at hr2
          clear hsz hat1 h3 hk2
          cases hv : mayL (.cons k1 l1 d1 mn1 mx1 .nil) (at_ + 1)
          · rw [hv] at HCALL hr2
            have HT := Lib.hid (show BV = false by rw [HE.out, ← hr2]; rfl)
            clear hv hr2
            go_wp2_with (first | (go_at_call 37; (with_reducible refine (HCALL.out).mono ?_); rintro e w2 ⟨bb, xx, rfl, hl1, hl2, hl3, hl4⟩))
            exact ⟨rfl, by
              rw [HT.out]
              exact ⟨bb, xx, rfl, hl1, hl2, Nat.le_trans (Nat.le_trans HB.out.size HSB.out.size) hl3, (HB.out.trans (HSB.out.mono HB.out.size)).trans (hl4.mono (Nat.le_trans HB.out.size HSB.out.size))⟩⟩
          · rw [hv] at HCALL hr2
            have hr3 := Lib.hid (show mayL r1 (at_ + 1) = mayL kids (at_ + 1) by rw [← hr2]; rfl)
            clear hv hr2
            go_wp2_with (first | (go_at_call 37; (with_reducible refine (HCALL.out).mono ?_); rintro e w2 ⟨rfl, hb2⟩; have HB2 := Lib.hid hb2; clear hb2))
            exact ⟨⟨q + 1, _, r1, hkk, hqq, by go_num, hr3, Lib.hid ((HB.out.trans (HSB.out.mono HB.out.size)).trans (HB2.out.mono (Nat.le_trans HB.out.size HSB.out.size)))⟩, by have := hlen.out; simp only [Fo.len] at this; simp [RowKit.intOf]; omega⟩
    · have t4 : decide (at_ > 400) = true := decide_eq_true (by omega)
      have HE := Lib.hid (show mayL (.cons 5 l kids mn mx .nil) at_ = false by rw [may_one]; simp [h4])
      rw [HE.out, hl]
      rw [hl] at hc
      clear hl HE
      go_enter Tryz.func37, Tryz.ntmps37
      go_wp2_with (first | (go_at_call 71; (with_reducible refine (HO.out _ _).mono ?_); rintro e w' ⟨rfl, rfl⟩))
      exact ⟨rfl, HLO.out at_ _⟩
  · have HE := Lib.hid (show mayL (.cons 5 l kids mn mx .nil) at_ = false by rw [may_one]; unfold kindN; simp [hl])
    rw [HE.out]
    have tl : ((kids.len : Int) != 2) = true := by rw [bne_iff_ne]; omega
    have tl2 : ((kids.len : Int) == 2) = false := by rw [beq_eq_false_iff_ne]; omega
    clear HE hl
    generalize kids.len = KL at *
    go_enter Tryz.func37, Tryz.ntmps37
    go_wp2_with (first | (go_at_call 71; (with_reducible refine (HO.out _ _).mono ?_); rintro e w' ⟨rfl, rfl⟩))
    exact ⟨rfl, HLO.out at_ _⟩
set_option maxRecDepth 100000 in
set_option maxHeartbeats 16000000 in
theorem may_6 (n : Nat) (ih : ∀ (a : Nd) (X : List Nat) (at_ : Int) (w : World), a.kids.sz < n → a.ok w X → 1 ≤ at_ → at_ ≤ 401 → Calls Tryz.prog 37 #[a.v, .int .i64 at_] w (MayP w (mayL (a.fo .nil) at_)))
    (l : ByteArray) (A : Option Addr) (c : Nat) (mn mx : Int) (kids : Fo) (X : List Nat) (at_ : Int) (w : World) (hn : kids.sz ≤ n) (hc : kids.len ≤ c) (hc2 : c ≤ 9223372036854775807) (hat : At w X kids A) (h1 : 1 ≤ at_) (h2 : at_ ≤ 401) :
    Calls Tryz.prog 37 #[.agg #[.int .i64 6, .string l, .slice A kids.len c, .int .i64 mn, .int .i64 mx], .int .i64 at_] w (MayP w (mayL (.cons 6 l kids mn mx .nil) at_)) := by
  have HO := Lib.hid (fun (x : Int) w => out1 1 x w)
  have HN := Lib.hid hn
  have HA := Lib.hid hat
  have IH := Lib.hid ih
  have HLO := Lib.hid (fun (x : Int) (o : Obj) => left_out (w := w) (o := o) (code := 1) (x := x))
  clear hn hat ih
  by_cases hl : kids.len = 1
  · by_cases h4 : at_ ≤ 400
    · have HE := Lib.hid (show mayL (.cons 6 l kids mn mx .nil) at_ = mayL kids (at_ + 1) by rw [may_one]; unfold kindN; rw [hl]; simp [h4])
      have t4 : decide (at_ > 400) = false := decide_eq_false (by omega)
      have HB0 := Lib.hid (show Below w.heap.size w (w.alloc (obj5 6 l A kids.len c mn mx)) from (Below.refl _ w).alloc (Nat.le_refl _) _)
      have HLL := Lib.hid hl
      generalize hBV : mayL (.cons 6 l kids mn mx .nil) at_ = BV at *
      clear hBV
      rw [hl] at hc ⊢
      clear hl
      go_enter Tryz.func37, Tryz.ntmps37
      go_wp2_with fail
      go_loopw [34] (fun iv wr => ∃ (q : Nat) (dn r : Fo), Hid (kids = dn.app r) ∧ Hid (dn.len = q) ∧ iv = .int .i64 q ∧ Hid (mayL r (at_ + 1) = mayL kids (at_ + 1)) ∧ Hid (Below w.heap.size w wr)) (fun iv _ => kids.len - (RowKit.intOf iv).toNat)
      case atStart => exact ⟨0, .nil, kids, Lib.hid rfl, Lib.hid rfl, rfl, Lib.hid rfl, by have := HB0.out; rw [HLL.out] at this; exact Lib.hid this⟩
      case round =>
        obtain ⟨q, dn, r, hk, hq, rfl, hr, HB⟩ := hrel
        have hlen := Lib.hid (show kids.len = q + r.len by rw [hk.out, Fo.app_len, hq.out])
        cases r with
        | nil =>
          have hlt : ¬ (q : Int) < 1 := by have := hlen.out; have := HLL.out; simp only [Fo.len] at *; omega
          have HT := Lib.hid (show BV = true by rw [HE.out, ← hr.out]; rfl)
          go_wp2_with fail
          first | go_end0 | skip
          rw [HT.out]
          exact ⟨rfl, HB.out⟩
        | cons k1 l1 d1 mn1 mx1 r1 =>
          have hlt : (q : Int) < 1 := by have := hlen.out; have := HLL.out; simp only [Fo.len] at *; omega
          have hq0 : (0 : Int) ≤ q := by omega
          have hk2 : kids = dn.app (.cons k1 l1 d1 mn1 mx1 r1) := hk.out
          obtain ⟨b0, o0, rfl⟩ := at_shape HA.out (by have := hlen.out; simp only [Fo.len] at this; omega)
          have h3 := HA.out.below HB.out
          rw [hk2] at h3
          obtain ⟨K1, c1, hcel, hc3, hc4, hat1⟩ := h3.nth hq.out
          obtain ⟨e0, e1, e2, e3, e4⟩ := hcel
          have hsz : d1.sz < n := by
            have h5 := congrArg Fo.sz hk2
            rw [Fo.app_sz] at h5
            have h6 := HN.out
            simp only [Fo.sz] at h5
            omega
          have HCALL := Lib.hid (IH.out ⟨k1, l1, K1, c1, mn1, mx1, d1⟩ X (at_ + 1) (wr.alloc (obj5 k1 l1 K1 d1.len c1 mn1 mx1)) hsz (Nd.ok.al ⟨hc3, hc4, hat1⟩ _) (by omega) (by omega))
          unfold Nd.v Nd.fo at HCALL
          simp only at HCALL
          have HSB := Lib.hid (show Below wr.heap.size wr (wr.alloc (obj5 k1 l1 K1 d1.len c1 mn1 mx1)) from (Below.refl _ _).alloc (Nat.le_refl _) _)
          have hkk := Lib.hid (show kids = (dn.app (.cons k1 l1 d1 mn1 mx1 .nil)).app r1 by rw [hk2, Fo.app_assoc]; rfl)
          have hqq := Lib.hid (show (dn.app (.cons k1 l1 d1 mn1 mx1 .nil)).len = q + 1 by rw [Fo.app_len, hq.out]; rfl)
          have hr2 := hr.out
          rw [mayL_cons] at hr2
          clear hsz hat1 h3 hk2
          cases hv : mayL (.cons k1 l1 d1 mn1 mx1 .nil) (at_ + 1)
          · rw [hv] at HCALL hr2
            have HT := Lib.hid (show BV = false by rw [HE.out, ← hr2]; rfl)
            clear hv hr2
            go_wp2_with (first | (go_at_call 37; (with_reducible refine (HCALL.out).mono ?_); rintro e w2 ⟨bb, xx, rfl, hl1, hl2, hl3, hl4⟩))
            exact ⟨rfl, by
              rw [HT.out]
              exact ⟨bb, xx, rfl, hl1, hl2, Nat.le_trans (Nat.le_trans HB.out.size HSB.out.size) hl3, (HB.out.trans (HSB.out.mono HB.out.size)).trans (hl4.mono (Nat.le_trans HB.out.size HSB.out.size))⟩⟩
          · rw [hv] at HCALL hr2
            have hr3 := Lib.hid (show mayL r1 (at_ + 1) = mayL kids (at_ + 1) by rw [← hr2]; rfl)
            clear hv hr2
            go_wp2_with (first | (go_at_call 37; (with_reducible refine (HCALL.out).mono ?_); rintro e w2 ⟨rfl, hb2⟩; have HB2 := Lib.hid hb2; clear hb2))
            exact ⟨⟨q + 1, _, r1, hkk, hqq, by go_num, hr3, Lib.hid ((HB.out.trans (HSB.out.mono HB.out.size)).trans (HB2.out.mono (Nat.le_trans HB.out.size HSB.out.size)))⟩, by have := hlen.out; simp only [Fo.len] at this; simp [RowKit.intOf]; omega⟩
    · have t4 : decide (at_ > 400) = true := decide_eq_true (by omega)
      have HE := Lib.hid (show mayL (.cons 6 l kids mn mx .nil) at_ = false by rw [may_one]; simp [h4])
      rw [HE.out, hl]
      rw [hl] at hc
      clear hl HE
      go_enter Tryz.func37, Tryz.ntmps37
      go_wp2_with (first | (go_at_call 71; (with_reducible refine (HO.out _ _).mono ?_); rintro e w' ⟨rfl, rfl⟩))
      exact ⟨rfl, HLO.out at_ _⟩
  · have HE := Lib.hid (show mayL (.cons 6 l kids mn mx .nil) at_ = false by rw [may_one]; unfold kindN; simp [hl])
    rw [HE.out]
    have tl : ((kids.len : Int) != 1) = true := by rw [bne_iff_ne]; omega
    have tl2 : ((kids.len : Int) == 1) = false := by rw [beq_eq_false_iff_ne]; omega
    clear HE hl
    generalize kids.len = KL at *
    go_enter Tryz.func37, Tryz.ntmps37
    go_wp2_with (first | (go_at_call 71; (with_reducible refine (HO.out _ _).mono ?_); rintro e w' ⟨rfl, rfl⟩))
    exact ⟨rfl, HLO.out at_ _⟩
set_option maxRecDepth 100000 in
set_option maxHeartbeats 16000000 in
theorem may_none (k : Int) (hk : ¬ (1 ≤ k ∧ k ≤ 6)) (l : ByteArray) (A : Option Addr) (c : Nat) (mn mx : Int) (kids : Fo) (at_ : Int) (w : World) :
    Calls Tryz.prog 37 #[.agg #[.int .i64 k, .string l, .slice A kids.len c, .int .i64 mn, .int .i64 mx], .int .i64 at_] w (MayP w (mayL (.cons k l kids mn mx .nil) at_)) := by
  have HO := Lib.hid (fun (x : Int) w => out1 1 x w)
  have HLO := Lib.hid (fun (x : Int) (o : Obj) => left_out (w := w) (o := o) (code := 1) (x := x))
  have HE := Lib.hid (show mayL (.cons k l kids mn mx .nil) at_ = false by
    rw [may_one]
    unfold kindN
    rw [if_neg (by omega), if_neg (by omega), if_neg (by omega)]
    rfl)
  rw [HE.out]
  have t1 : (k == 1) = false := by rw [beq_eq_false_iff_ne]; omega
  have t2 : (k == 2) = false := by rw [beq_eq_false_iff_ne]; omega
  have t3 : (k == 3) = false := by rw [beq_eq_false_iff_ne]; omega
  have t4 : (k == 4) = false := by rw [beq_eq_false_iff_ne]; omega
  have t5 : (k == 5) = false := by rw [beq_eq_false_iff_ne]; omega
  have t6 : (k == 6) = false := by rw [beq_eq_false_iff_ne]; omega
  clear HE hk
  generalize kids.len = KL at *
  go_enter Tryz.func37, Tryz.ntmps37
  go_wp2_with (first | (go_at_call 71; (with_reducible refine (HO.out _ _).mono ?_); rintro e w' ⟨rfl, rfl⟩))
  exact ⟨rfl, HLO.out at_ _⟩
theorem may_n (n : Nat) : ∀ (a : Nd) (X : List Nat) (at_ : Int) (w : World), a.kids.sz < n → a.ok w X → 1 ≤ at_ → at_ ≤ 401 → Calls Tryz.prog 37 #[a.v, .int .i64 at_] w (MayP w (mayL (a.fo .nil) at_)) := by
  induction n with
  | zero => intro a X at_ w hn; omega
  | succ n ih =>
    intro a X at_ w hn hok h1 h2
    obtain ⟨k, l, A, c, mn, mx, kids⟩ := a
    obtain ⟨hc, hc2, hat⟩ := hok
    have hs : kids.sz ≤ n := Nat.le_of_lt_succ hn
    by_cases hk : 1 ≤ k ∧ k ≤ 6
    · rcases (show k = 1 ∨ k = 2 ∨ k = 3 ∨ k = 4 ∨ k = 5 ∨ k = 6 by omega) with rfl | rfl | rfl | rfl | rfl | rfl
      · exact may_1 n ih l A c mn mx kids X at_ w hs hc hc2 hat h1 h2
      · exact may_2 n ih l A c mn mx kids X at_ w hs hc hc2 hat h1 h2
      · exact may_3 n ih l A c mn mx kids X at_ w hs hc hc2 hat h1 h2
      · exact may_4 n ih l A c mn mx kids X at_ w hs hc hc2 hat h1 h2
      · exact may_5 n ih l A c mn mx kids X at_ w hs hc hc2 hat h1 h2
      · exact may_6 n ih l A c mn mx kids X at_ w hs hc hc2 hat h1 h2
    · exact may_none k hk l A c mn mx kids at_ w
end Go.Proofs.YtpaehicfndkliaaGreatDoor.De


/- The walks of bail's 'call', 'Catch', at the function that 'Is' hands it; of 'Is', 'known'. Condition: the path can be read. -/
namespace Go.Proofs.YtpaehicfndkliaaGreatDoor.De
open Go.RowKit Go.Lib Na Go.PN Pa

set_option maxRecDepth 100000 in
set_option maxHeartbeats 4000000 in
theorem catch_idle (C D : Nat) (w : World) :
    CallsD Tryz.prog 69 #[.pointer (some ⟨C, 0, none⟩), .pointer (some ⟨D, 0, none⟩)] .returning w fun e u' w' => e = .returned (.tuple #[]) ∧ u' = .returning ∧ w' = w := by
  refine callsD_of_wpS Tryz.func69 rfl fun c₀ cs hu => ?_
  apply wpS_seq
  apply wpS_region
  simp [wpOpsS, go_sem, recoverD, hu, Tryz.ntmps69, Exit.thenS]
  refine wpS_of_wp ?_
  have HU := Lib.hid hu
  clear hu
  rw [show (#[Value.pointer (some ⟨C, 0, none⟩), Value.pointer (some ⟨D, 0, none⟩)] ++ (Array.replicate 21 undef).setIfInBounds 3 Value.nilIface) = #[.pointer (some ⟨C, 0, none⟩), .pointer (some ⟨D, 0, none⟩), undef, undef, undef, .nilIface, undef, undef, undef, undef, undef, undef, undef, undef, undef, undef, undef, undef, undef, undef, undef, undef, undef] from by simp [Array.replicate, List.replicate]]
  refine Go.wp_mono (Q := fun e a' w' => (e = .normal ∨ e = .ret) ∧ a'.defers = [] ∧ w' = w) ?_ ?_
  · clear HU
    go_wp2
  · intro e a' w' ⟨he, hd, hw⟩
    have hu := HU.out
    cases c₀
    rcases he with rfl | rfl <;> simp_all [bodyPostS, results, Tryz.results69]
set_option maxRecDepth 100000 in
set_option maxHeartbeats 4000000 in
theorem catch_panicking (B C D b : Nat) (x y c d : Int) (w : World) (hBC : B ≤ C) (hBD : B ≤ D) (hC : w.cell? ⟨C, 0, none⟩ = some (.int .i64 c)) (hD : w.cell? ⟨D, 0, none⟩ = some (.int .i64 d)) (fC : w.frozen? ⟨C, 0, none⟩ = false) (fD : w.frozen? ⟨D, 0, none⟩ = false) (hCD : C ≠ D) (hDC : D ≠ C)
    (h0 : w.cell? ⟨b, 0, none⟩ = some (.int .i64 x)) (h1 : w.cell? ⟨b, 1, none⟩ = some (.int .i64 y)) (hbC : b ≠ C) (hbD : b ≠ D) (hCb : C ≠ b) (hDb : D ≠ b) :
    CallsD Tryz.prog 69 #[.pointer (some ⟨C, 0, none⟩), .pointer (some ⟨D, 0, none⟩)] (.panicking ({ v := .iface 66 (.pointer (some ⟨b, 0, none⟩)), recovered := false } :: [])) w fun e u' w' => e = .returned (.tuple #[]) ∧ u' = .panicking ({ v := .iface 66 (.pointer (some ⟨b, 0, none⟩)), recovered := true } :: []) ∧ w'.cell? ⟨C, 0, none⟩ = some (.int .i64 x) ∧ w'.cell? ⟨D, 0, none⟩ = some (.int .i64 y) ∧ Below B w w' := by
  refine callsD_of_wpS Tryz.func69 rfl fun c₀ cs hu => ?_
  apply wpS_seq
  apply wpS_region
  simp [wpOpsS, go_sem, recoverD, hu, Tryz.ntmps69, Exit.thenS]
  refine wpS_of_wp ?_
  have HU := Lib.hid hu
  clear hu
  rw [show (#[Value.pointer (some ⟨C, 0, none⟩), Value.pointer (some ⟨D, 0, none⟩)] ++ (Array.replicate 21 undef).setIfInBounds 3 (.iface 66 (.pointer (some ⟨b, 0, none⟩)))) = #[.pointer (some ⟨C, 0, none⟩), .pointer (some ⟨D, 0, none⟩), undef, undef, undef, .iface 66 (.pointer (some ⟨b, 0, none⟩)), undef, undef, undef, undef, undef, undef, undef, undef, undef, undef, undef, undef, undef, undef, undef, undef, undef] from by simp [Array.replicate, List.replicate]]
  refine Go.wp_mono (Q := fun e a' w' => (e = .normal ∨ e = .ret) ∧ a'.defers = [] ∧ w'.cell? ⟨C, 0, none⟩ = some (.int .i64 x) ∧ w'.cell? ⟨D, 0, none⟩ = some (.int .i64 y) ∧ Below B w w') ?_ ?_
  · clear HU
    have hta : ∀ w : World, (Instr.typeAssert (.iface 66 (.pointer (some ⟨b, 0, none⟩))) 20 66 true).run Tryz.prog w = .ok (.tuple #[.pointer (some ⟨b, 0, none⟩), .bool true]) w := fun w => by
      kernel_rfl
    go_wp2
    go_region
    all_goals
      exact ⟨Or.inl rfl, rfl, by go_simp, by go_simp, ((((Below.refl B w).setCell (p := ⟨C, 0, none⟩) hBC _).setCell (p := ⟨D, 0, none⟩) hBD _).drew)⟩
  · intro e a' w' ⟨he, hd, hw⟩
    have hu := HU.out
    cases c₀
    rcases he with rfl | rfl <;> simp_all [bodyPostS, results, Tryz.results69]
abbrev catW (w : World) : World := (w.alloc (.cells #[.int .i64 0] 29)).alloc (.cells #[.int .i64 0] 3)
theorem catW_cells (w : World) : (catW w).cell? ⟨w.heap.size, 0, none⟩ = some (.int .i64 0) ∧ (catW w).cell? ⟨w.heap.size + 1, 0, none⟩ = some (.int .i64 0) ∧ (catW w).frozen? ⟨w.heap.size, 0, none⟩ = false ∧ (catW w).frozen? ⟨w.heap.size + 1, 0, none⟩ = false := by
  refine ⟨?_, ?_, ?_, ?_⟩ <;> go_simp
theorem catW_size (w : World) : (catW w).heap.size = w.heap.size + 2 := by simp
theorem catW_below (w : World) : Below w.heap.size w (catW w) := ((Below.refl _ w).alloc (Nat.le_refl _) _).alloc (by simp) _

set_option maxRecDepth 100000 in
/-- 'call', at is. -/
theorem call_ok_is (a0 : Nat) (w : World) (Q : World → Prop) (H : Calls Tryz.prog 36 #[.pointer (some ⟨a0, 0, none⟩)] w fun e w' => e = .returned (.tuple #[]) ∧ Q w') :
    Calls Tryz.prog 70 #[.func (.func 36) #[] #[.pointer (some ⟨a0, 0, none⟩)]] w fun e w' => e = .returned (.tuple #[]) ∧ Q w' := by
  have HH := Lib.hid H
  clear H
  have hnf : ∀ (fn : Fn) (first cap : Array Value) (w : World), (binOp .neq 1 (.func fn first cap) .nilFunc).run Tryz.prog w = .ok (.bool true) w := fun _ _ _ _ => rfl
  go_enter Tryz.func70, Tryz.ntmps70
  go_wp2_with (go_at_call 36; (with_reducible refine (HH.out).mono ?_); rintro e w' ⟨rfl, hq⟩)
  first | go_end0 | skip
  exact ⟨rfl, hq⟩
set_option maxRecDepth 100000 in
theorem call_left_is (code : Int) (a0 : Nat) (w : World) (H : Calls Tryz.prog 36 #[.pointer (some ⟨a0, 0, none⟩)] w (Left1 code w)) :
    Calls Tryz.prog 70 #[.func (.func 36) #[] #[.pointer (some ⟨a0, 0, none⟩)]] w (Left1 code w) := by
  have HH := Lib.hid H
  clear H
  have hnf : ∀ (fn : Fn) (first cap : Array Value) (w : World), (binOp .neq 1 (.func fn first cap) .nilFunc).run Tryz.prog w = .ok (.bool true) w := fun _ _ _ _ => rfl
  go_enter Tryz.func70, Tryz.ntmps70
  go_wp2_with (go_at_call 36; (with_reducible refine (HH.out).mono ?_); rintro e w' ⟨b, x, rfl, hl1, hl2, hl3, hl4⟩)
  exact ⟨rfl, ⟨b, x, rfl, hl1, hl2, hl3, hl4⟩⟩
set_option maxRecDepth 100000 in
set_option maxHeartbeats 8000000 in
/-- 'Catch', at is, which returns. -/
theorem catch_ok_is (a0 : Nat) (w : World) (Q : World → Prop)
    (H : Calls Tryz.prog 36 #[.pointer (some ⟨a0, 0, none⟩)] (catW w) fun e w' => e = .returned (.tuple #[]) ∧ Q w' ∧ (w'.cell? ⟨w.heap.size, 0, none⟩ = some (.int .i64 0) ∧ w'.cell? ⟨w.heap.size + 1, 0, none⟩ = some (.int .i64 0) ∧ w'.frozen? ⟨w.heap.size, 0, none⟩ = false ∧ w'.frozen? ⟨w.heap.size + 1, 0, none⟩ = false)) :
    Calls Tryz.prog 35 #[.func (.func 36) #[] #[.pointer (some ⟨a0, 0, none⟩)]] w fun e w' => e = .returned (.tuple #[.int .i64 0, .int .i64 0]) ∧ ∃ w2, Q w2 ∧ w' = (w2.setCell ⟨w.heap.size, 0, none⟩ (.int .i64 0)).setCell ⟨w.heap.size + 1, 0, none⟩ (.int .i64 0) := by
  have hmf : ∀ (fn : Fn) (first cap : Array Value) (w : World), (Instr.makeFunc fn first cap).run Tryz.prog w = .ok (.func fn first cap) w := fun _ _ _ _ => rfl
  have HH := Lib.hid (call_ok_is a0 (catW w) _ H)
  clear H
  go_enter_defers Tryz.func35, Tryz.ntmps35
  go_wp2_with (go_at_call 70; (with_reducible refine (HH.out).mono ?_); rintro e w2 ⟨rfl, hq, c0, c1, f0, f1⟩)
  refine leaves_cons (f := 69) (args := #[.pointer (some ⟨w.heap.size, 0, none⟩), .pointer (some ⟨w.heap.size + 1, 0, none⟩)]) (by simp) (by simp [go_sem]) ?_
  refine (catch_idle w.heap.size (w.heap.size + 1) _).mono ?_
  rintro e u' w'' ⟨rfl, rfl, rfl⟩
  simp [Leaves, settle, results, Tryz.results35, go_sem, c0, c1]
  exact ⟨w2, hq, rfl⟩
set_option maxRecDepth 100000 in
set_option maxHeartbeats 8000000 in
/-- 'Catch', at is, which leaves. -/
theorem catch_left_is (code : Int) (a0 : Nat) (w : World)
    (H : Calls Tryz.prog 36 #[.pointer (some ⟨a0, 0, none⟩)] (catW w) (Left1 code (catW w))) :
    Calls Tryz.prog 35 #[.func (.func 36) #[] #[.pointer (some ⟨a0, 0, none⟩)]] w fun e w' => ∃ x : Int, e = .returned (.tuple #[.int .i64 code, .int .i64 x]) ∧ Below w.heap.size w w' := by
  have hmf : ∀ (fn : Fn) (first cap : Array Value) (w : World), (Instr.makeFunc fn first cap).run Tryz.prog w = .ok (.func fn first cap) w := fun _ _ _ _ => rfl
  have HH := Lib.hid (call_left_is code a0 (catW w) H)
  clear H
  go_enter_defers Tryz.func35, Tryz.ntmps35
  go_wp2_with (go_at_call 70; (with_reducible refine (HH.out).mono ?_); rintro e w2 ⟨b, x, rfl, hl1, hl2, hl3, hl4⟩)
  obtain ⟨c0, c1, f0, f1⟩ := catW_cells w
  have hz := catW_size w
  rw [hz] at hl3
  have d0 := (hl4.cell (p := ⟨w.heap.size, 0, none⟩) (by rw [hz]; show w.heap.size < _; omega)).trans c0
  have d1 := (hl4.cell (p := ⟨w.heap.size + 1, 0, none⟩) (by rw [hz]; show w.heap.size + 1 < _; omega)).trans c1
  have g0 := (hl4.frozen (p := ⟨w.heap.size, 0, none⟩) (by rw [hz]; show w.heap.size < _; omega)).trans f0
  have g1 := (hl4.frozen (p := ⟨w.heap.size + 1, 0, none⟩) (by rw [hz]; show w.heap.size + 1 < _; omega)).trans f1
  refine leaves_cons (f := 69) (args := #[.pointer (some ⟨w.heap.size, 0, none⟩), .pointer (some ⟨w.heap.size + 1, 0, none⟩)]) (by simp) (by simp [go_sem]) ?_
  refine (catch_panicking w.heap.size w.heap.size (w.heap.size + 1) b code x 0 0 _ (by omega) (by omega) d0 d1 g0 g1 (by omega) (by omega) hl1 hl2 (by omega) (by omega) (by omega) (by omega)).mono ?_
  rintro e u' w'' ⟨rfl, rfl, k0, k1, hk⟩
  simp [Leaves, settle, results, Tryz.results35, go_sem, k0, k1]
  exact ((catW_below w).trans (hl4.mono (by rw [hz]; omega))).trans hk
/-- What 'Catch' hands back of a function that makes memory alone, or leaves with code 1. -/
theorem catch_may_is (a0 : Nat) (w : World) (B : Bool) (H : Calls Tryz.prog 36 #[.pointer (some ⟨a0, 0, none⟩)] (catW w) (MayP (catW w) B)) :
    Calls Tryz.prog 35 #[.func (.func 36) #[] #[.pointer (some ⟨a0, 0, none⟩)]] w fun e w' => (∃ x : Int, e = .returned (.tuple #[.int .i64 (if B then 0 else 1), .int .i64 x])) ∧ Below w.heap.size w w' := by
  cases B with
  | false => exact (catch_left_is 1 a0 w H).mono fun e w' ⟨x, h1, h2⟩ => ⟨⟨x, h1⟩, h2⟩
  | true =>
    have hz := catW_size w
    obtain ⟨c0, c1, f0, f1⟩ := catW_cells w
    refine (catch_ok_is a0 w (fun w2 => Below (catW w).heap.size (catW w) w2) (H.mono fun e w' ⟨h1, h2⟩ => ⟨h1, h2, ?_, ?_, ?_, ?_⟩)).mono ?_
    · exact (h2.cell (p := ⟨w.heap.size, 0, none⟩) (by rw [hz]; show w.heap.size < _; omega)).trans c0
    · exact (h2.cell (p := ⟨w.heap.size + 1, 0, none⟩) (by rw [hz]; show w.heap.size + 1 < _; omega)).trans c1
    · exact (h2.frozen (p := ⟨w.heap.size, 0, none⟩) (by rw [hz]; show w.heap.size < _; omega)).trans f0
    · exact (h2.frozen (p := ⟨w.heap.size + 1, 0, none⟩) (by rw [hz]; show w.heap.size + 1 < _; omega)).trans f1
    · rintro e w' ⟨h1, w2, h2, rfl⟩
      exact ⟨⟨0, h1⟩, (((catW_below w).trans (h2.mono (by rw [hz]; omega))).setCell (p := ⟨w.heap.size, 0, none⟩) (Nat.le_refl _) _).setCell (p := ⟨w.heap.size + 1, 0, none⟩) (Nat.le_succ _) _⟩

def isB (k : Int) (l : ByteArray) (d : Fo) (mn mx : Int) : Bool := mayL (.cons k l d mn mx .nil) 1
set_option maxRecDepth 100000 in
set_option maxHeartbeats 4000000 in
theorem is1_any (a : Nd) (b : Nat) (X : List Nat) (w : World) (h : a.ok w X) (hb : Bx w b (.int .i64 a.k) (.string a.l) (.slice a.A a.kids.len a.c) (.int .i64 a.mn) (.int .i64 a.mx)) :
    Calls Tryz.prog 36 #[.pointer (some ⟨b, 0, none⟩)] w (MayP w (isB a.k a.l a.kids a.mn a.mx)) := by
  have HC := Lib.hid (may_n (a.kids.sz + 1) a X 1 w (Nat.lt_succ_self _) h (by decide) (by decide))
  obtain ⟨⟨x0, x1, x2, x3, x4⟩, y0, y1, y2, y3, y4⟩ := bx_all hb
  have HE := Lib.hid (show isB a.k a.l a.kids a.mn a.mx = mayL (a.fo .nil) 1 from rfl)
  unfold Nd.v at HC
  clear h hb
  generalize isB a.k a.l a.kids a.mn a.mx = B at *
  rw [← HE.out] at HC
  clear HE
  cases B
  · go_enter Tryz.func36, Tryz.ntmps36
    go_wp2_with (first | (go_at_call 37; (with_reducible refine (HC.out).mono ?_); rintro e w2 ⟨bb, xx, rfl, hl1, hl2, hl3, hl4⟩))
    exact ⟨rfl, bb, xx, rfl, hl1, hl2, hl3, hl4⟩
  · go_enter Tryz.func36, Tryz.ntmps36
    go_wp2_with (first | (go_at_call 37; (with_reducible refine (HC.out).mono ?_); rintro e w2 ⟨rfl, hb2⟩))
    first | go_end0 | skip
    exact ⟨rfl, hb2⟩
set_option maxRecDepth 100000 in
set_option maxHeartbeats 4000000 in
theorem Is_any (a : Nd) (X : List Nat) (w : World) (h : a.ok w X) : Calls Tryz.prog 12 #[a.v] w fun e w' => e = .returned (.bool (isB a.k a.l a.kids a.mn a.mx)) ∧ Below w.heap.size w w' := by
  have HC := Lib.hid (catch_may_is w.heap.size (w.alloc (obj5 a.k a.l a.A a.kids.len a.c a.mn a.mx)) (isB a.k a.l a.kids a.mn a.mx) (is1_any a w.heap.size X _ ((h.al _).below (catW_below _)) ((Bx.new w (.int .i64 a.k) (.string a.l) (.slice a.A a.kids.len a.c) (.int .i64 a.mn) (.int .i64 a.mx) 24).below (catW_below _))))
  have HB := Lib.hid ((Below.refl _ w).alloc (Nat.le_refl _) (obj5 a.k a.l a.A a.kids.len a.c a.mn a.mx))
  have hmf : ∀ (fn : Fn) (first cap : Array Value) (w : World), (Instr.makeFunc fn first cap).run Tryz.prog w = .ok (.func fn first cap) w := fun _ _ _ _ => rfl
  unfold Nd.v
  clear h
  generalize isB a.k a.l a.kids a.mn a.mx = B at *
  cases B
  · go_enter Tryz.func12, Tryz.ntmps12
    go_wp2_with (first | (go_at_call 35; (with_reducible refine (HC.out).mono ?_); rintro e w2 ⟨⟨x, rfl⟩, hb2⟩; have HB2 := Lib.hid hb2; clear hb2))
    go_ret
    exact ⟨rfl, HB.out.trans (HB2.out.mono HB.out.size)⟩
  · go_enter Tryz.func12, Tryz.ntmps12
    go_wp2_with (first | (go_at_call 35; (with_reducible refine (HC.out).mono ?_); rintro e w2 ⟨⟨x, rfl⟩, hb2⟩; have HB2 := Lib.hid hb2; clear hb2))
    go_ret
    exact ⟨rfl, HB.out.trans (HB2.out.mono HB.out.size)⟩
def knownB (k : Int) (l : ByteArray) (d : Fo) (mn mx : Int) : Bool := decide (checkE k l d mn mx = 0) || isB k l d mn mx
set_option maxRecDepth 100000 in
set_option maxHeartbeats 4000000 in
theorem known_any (a : Nd) (X : List Nat) (w : World) (h : a.ok w X) (hbd : Bd (a.fo .nil)) : Calls Tryz.prog 38 #[a.v] w fun e w' => e = .returned (.bool (knownB a.k a.l a.kids a.mn a.mx)) ∧ Below w.heap.size w w' := by
  have HC := Lib.hid (fun (w1 : World) (hb : Below w.heap.size w w1) => check_any a X w1 (h.below hb) hbd)
  have HI := Lib.hid (fun (w1 : World) (hb : Below w.heap.size w w1) => Is_any a X w1 (h.below hb))
  have HB := Lib.hid ((Below.refl _ w).alloc (Nat.le_refl _) (obj5 a.k a.l a.A a.kids.len a.c a.mn a.mx))
  have HY := Lib.hid (Bx.new w (.int .i64 a.k) (.string a.l) (.slice a.A a.kids.len a.c) (.int .i64 a.mn) (.int .i64 a.mx) 24)
  have HE := Lib.hid (show knownB a.k a.l a.kids a.mn a.mx = (decide (checkE a.k a.l a.kids a.mn a.mx = 0) || isB a.k a.l a.kids a.mn a.mx) from rfl)
  unfold Nd.v at *
  clear h hbd
  generalize knownB a.k a.l a.kids a.mn a.mx = KB at *
  generalize checkE a.k a.l a.kids a.mn a.mx = E at *
  generalize isB a.k a.l a.kids a.mn a.mx = B at *
  by_cases h0 : E = 0
  · subst h0
    have HT := Lib.hid (show KB = true by rw [HE.out]; rfl)
    clear HE
    go_enter Tryz.func38, Tryz.ntmps38
    go_wp2_with (first
      | (go_at_call 25; (with_reducible refine (HC.out _ HB.out).mono ?_); rintro e w2 ⟨rfl, hb2⟩; have HB2 := Lib.hid hb2; clear hb2))
    go_ret
    exact ⟨by rw [HT.out]; rfl, HB.out.trans (HB2.out.mono HB.out.size)⟩
  · have t0 : (E == 0) = false := by rw [beq_eq_false_iff_ne]; exact h0
    have HT := Lib.hid (show KB = B by rw [HE.out, decide_eq_false h0]; rfl)
    clear HE h0
    go_enter Tryz.func38, Tryz.ntmps38
    go_wp2_with (first
      | (go_at_call 25; (with_reducible refine (HC.out _ HB.out).mono ?_); rintro e w2 ⟨rfl, hb2⟩; have HB2 := Lib.hid (HB.out.trans (hb2.mono HB.out.size)); obtain ⟨⟨x0, x1, x2, x3, x4⟩, y0, y1, y2, y3, y4⟩ := bx_all (HY.out.below hb2); clear hb2)
      | (go_at_call 12; (with_reducible refine (HI.out _ HB2.out).mono ?_); rintro e w3 ⟨rfl, hb3⟩; have HB3 := Lib.hid (HB2.out.trans (hb3.mono HB2.out.size)); clear hb3))
    go_ret
    exact ⟨by rw [HT.out]; rfl, HB3.out⟩
end Go.Proofs.YtpaehicfndkliaaGreatDoor.De


/- The walk of 'nullable'. Condition: the path can be read; what is repeated is one path. -/
namespace Go.Proofs.YtpaehicfndkliaaGreatDoor.De
open Go.RowKit Go.Lib Na Go.PN Pa

def nu1 (k : Int) (p : Bool × Bool) (mn : Int) : Bool := if k = 1 ∨ k = 6 ∨ k = 8 then true else if k = 4 then p.2 else if k = 9 then decide (mn = 0) || p.1 else p.1
/-- Of a row: has one of the paths the empty word; has each. -/
def nuL : Fo → Bool × Bool
  | .nil => (false, true)
  | .cons k _ d mn _ r => (nu1 k (nuL d) mn || (nuL r).1, nu1 k (nuL d) mn && (nuL r).2)
def nuB (k : Int) (d : Fo) (mn : Int) : Bool := nu1 k (nuL d) mn
theorem nuL_cons (k : Int) (l : ByteArray) (d : Fo) (mn mx : Int) (r : Fo) : nuL (.cons k l d mn mx r) = (nuB k d mn || (nuL r).1, nuB k d mn && (nuL r).2) := rfl
/-- What is repeated so many times is one path. -/
def Rp : Fo → Prop
  | .nil => True
  | .cons k _ d _ _ r => (k = 9 → d.len = 1) ∧ Rp d ∧ Rp r
theorem Rp.app {f g : Fo} (h : Rp (f.app g)) : Rp g := by
  induction f with
  | nil => exact h
  | cons k l d mn mx r _ ih => exact ih h.2.2
theorem rp_val {f : Fo} (h : Val f) : Rp f := by
  induction f with
  | nil => trivial
  | cons k l d mn mx r ih1 ih2 =>
    obtain ⟨h1, h2, h3⟩ := h.cons
    exact ⟨fun e => (one_zero h1).2.2.2.1 (by omega), ih1 h2, ih2 h3⟩
theorem rp_may {f : Fo} {at_ : Int} (h : mayL f at_ = true) : Rp f := by
  induction f generalizing at_ with
  | nil => trivial
  | cons k l d mn mx r ih1 ih2 =>
    simp only [mayL, Bool.and_eq_true] at h
    refine ⟨fun e => ?_, ih1 h.1.2, ih2 h.2⟩
    have := h.1.1.1
    subst e
    simp [kindN] at this
theorem rp_known {k : Int} {l : ByteArray} {d : Fo} {mn mx : Int} (h : knownB k l d mn mx = true) : Rp (.cons k l d mn mx .nil) := by
  unfold knownB at h
  rw [Bool.or_eq_true, decide_eq_true_eq] at h
  rcases h with h | h
  · exact rp_val (check_zero h).1
  · exact rp_may h
abbrev NuC (n : Nat) : Prop := ∀ (a : Nd) (X : List Nat) (w : World), a.kids.sz < n → a.ok w X → Rp (a.fo .nil) → Calls Tryz.prog 46 #[a.v] w fun e w' => e = .returned (.bool (nuB a.k a.kids a.mn)) ∧ Below w.heap.size w w'
set_option maxRecDepth 100000 in
set_option maxHeartbeats 4000000 in
theorem nu1_any (n : Nat) (ih : NuC n) (a : Nd) (X : List Nat) (w : World) (hn : a.kids.sz < n) (h : a.ok w X) (hr : Rp (a.fo .nil)) : Calls Tryz.prog 80 #[a.v] w fun e w' => e = .returned (.bool (!nuB a.k a.kids a.mn)) ∧ Below w.heap.size w w' := by
  have HC := Lib.hid (ih a X (w.alloc (obj5 a.k a.l a.A a.kids.len a.c a.mn a.mx)) hn (h.al _) hr)
  have HB := Lib.hid ((Below.refl _ w).alloc (Nat.le_refl _) (obj5 a.k a.l a.A a.kids.len a.c a.mn a.mx))
  unfold Nd.v at *
  clear ih h hr
  generalize nuB a.k a.kids a.mn = B at *
  go_enter Tryz.func80, Tryz.ntmps80
  go_wp2_with (first | (go_at_call 46; (with_reducible refine (HC.out).mono ?_); rintro e w2 ⟨rfl, hb2⟩; have HB2 := Lib.hid hb2; clear hb2))
  go_ret
  exact ⟨rfl, HB.out.trans (HB2.out.mono HB.out.size)⟩
set_option maxRecDepth 100000 in
set_option maxHeartbeats 8000000 in
theorem index_nu (n : Nat) (ih : NuC n) (A : Option Addr) (c : Nat) (f : Fo) (X : List Nat) (w : World) (hn : f.sz ≤ n) (hc : f.len ≤ c) (hc2 : c ≤ 9223372036854775807) (hat : At w X f A) (hrp : Rp f) :
    Calls Tryz.prog 103 #[.slice A f.len c, .func (.func 46) #[] #[]] w fun e w' => (∃ i : Int, e = .returned (.int .i64 i) ∧ decide (0 ≤ i) = (nuL f).1) ∧ Below w.heap.size w w' := by
  have HN := Lib.hid hn
  have HA := Lib.hid hat
  have HRP := Lib.hid hrp
  have IH := Lib.hid ih
  clear hn hat hrp ih
  go_enter Tryz.func103, Tryz.ntmps103
  go_wp2_with fail
  go_loopw [8] (fun iv wr => ∃ (q : Nat) (dn r : Fo), Hid (f = dn.app r) ∧ Hid (dn.len = q) ∧ iv = .int .i64 q ∧ Hid ((nuL r).1 = (nuL f).1) ∧ Hid (Below w.heap.size w wr)) (fun iv _ => f.len - (RowKit.intOf iv).toNat)
  case atStart => exact ⟨0, .nil, f, Lib.hid rfl, Lib.hid rfl, rfl, Lib.hid rfl, Lib.hid (Below.refl _ _)⟩
  case round =>
    obtain ⟨q, dn, r, hk, hq, rfl, hr, HB⟩ := hrel
    have hlen := Lib.hid (show f.len = q + r.len by rw [hk.out, Fo.app_len, hq.out])
    cases r with
    | nil =>
      have hlt : ¬ (q : Int) < f.len := by have := hlen.out; simp only [Fo.len] at this; omega
      have HT := Lib.hid (show (nuL f).1 = false by rw [← hr.out]; rfl)
      go_wp2_with fail
      go_ret
      exact ⟨⟨-1, rfl, by rw [HT.out]; rfl⟩, HB.out⟩
    | cons k1 l1 d1 mn1 mx1 r1 =>
      have hlt : (q : Int) < f.len := by have := hlen.out; simp only [Fo.len] at this; omega
      have hq0 : (0 : Int) ≤ q := by omega
      have hk2 : f = dn.app (.cons k1 l1 d1 mn1 mx1 r1) := hk.out
      obtain ⟨b0, o0, rfl⟩ := at_shape HA.out (by have := hlen.out; simp only [Fo.len] at this; omega)
      have h3 := HA.out.below HB.out
      rw [hk2] at h3
      obtain ⟨K1, c1, hcel, hc3, hc4, hat1⟩ := h3.nth hq.out
      obtain ⟨e0, e1, e2, e3, e4⟩ := hcel
      have hsz : d1.sz < n := by
        have h5 := congrArg Fo.sz hk2
        rw [Fo.app_sz] at h5
        have h6 := HN.out
        simp only [Fo.sz] at h5
        omega
      have hrr : Rp (.cons k1 l1 d1 mn1 mx1 .nil) := by
        have h5 := HRP.out
        rw [hk2] at h5
        have h6 := Rp.app h5
        exact ⟨h6.1, h6.2.1, trivial⟩
      have HCALL := Lib.hid (IH.out ⟨k1, l1, K1, c1, mn1, mx1, d1⟩ X wr hsz ⟨hc3, hc4, hat1⟩ hrr)
      unfold Nd.v at HCALL
      simp only at HCALL
      have hr2 := hr.out
      rw [nuL_cons] at hr2
      have hkk := Lib.hid (show f = (dn.app (.cons k1 l1 d1 mn1 mx1 .nil)).app r1 by rw [hk2, Fo.app_assoc]; rfl)
      have hqq := Lib.hid (show (dn.app (.cons k1 l1 d1 mn1 mx1 .nil)).len = q + 1 by rw [Fo.app_len, hq.out]; rfl)
      clear hsz hat1 h3 hk2 hrr
      cases hv : nuB k1 d1 mn1
      all_goals rw [hv] at HCALL hr2
      case true =>
        have HT := Lib.hid (show (nuL f).1 = true by rw [← hr2]; rfl)
        clear hv hr2
        go_wp2_with (first | (go_at_call 46; (with_reducible refine (HCALL.out).mono ?_); rintro e w2 ⟨rfl, hb2⟩; have HB2 := Lib.hid hb2; clear hb2))
        go_ret
        exact ⟨⟨q, rfl, by rw [HT.out]; exact decide_eq_true hq0⟩, HB.out.trans (HB2.out.mono HB.out.size)⟩
      case false =>
        have hr3 := Lib.hid (show (nuL r1).1 = (nuL f).1 by rw [← hr2]; rfl)
        clear hv hr2
        go_wp2_with (first | (go_at_call 46; (with_reducible refine (HCALL.out).mono ?_); rintro e w2 ⟨rfl, hb2⟩; have HB2 := Lib.hid hb2; clear hb2))
        exact ⟨⟨q + 1, _, r1, hkk, hqq, by go_num, hr3, Lib.hid (HB.out.trans (HB2.out.mono HB.out.size))⟩, by have := hlen.out; simp only [Fo.len] at this; simp [RowKit.intOf]; omega⟩
set_option maxRecDepth 100000 in
set_option maxHeartbeats 4000000 in
theorem contains_nu (n : Nat) (ih : NuC n) (A : Option Addr) (c : Nat) (f : Fo) (X : List Nat) (w : World) (hn : f.sz ≤ n) (hc : f.len ≤ c) (hc2 : c ≤ 9223372036854775807) (hat : At w X f A) (hrp : Rp f) :
    Calls Tryz.prog 79 #[.slice A f.len c, .func (.func 46) #[] #[]] w fun e w' => e = .returned (.bool (nuL f).1) ∧ Below w.heap.size w w' := by
  have HC := Lib.hid (index_nu n ih A c f X w hn hc hc2 hat hrp)
  clear ih hat hrp
  generalize (nuL f).1 = B at *
  generalize f.len = L at *
  go_enter Tryz.func79, Tryz.ntmps79
  go_wp2_with (first | (go_at_call 103; (with_reducible refine (HC.out).mono ?_); rintro e w2 ⟨⟨i, rfl, hi⟩, hb2⟩; have HI := Lib.hid hi; have HB2 := Lib.hid hb2; clear hi hb2))
  all_goals (first | go_ret | skip)
  all_goals exact ⟨by have := HI.out; simp_all, HB2.out⟩
set_option maxRecDepth 100000 in
set_option maxHeartbeats 8000000 in
theorem index_nn (n : Nat) (ih : NuC n) (A : Option Addr) (c : Nat) (f : Fo) (X : List Nat) (w : World) (hn : f.sz ≤ n) (hc : f.len ≤ c) (hc2 : c ≤ 9223372036854775807) (hat : At w X f A) (hrp : Rp f) :
    Calls Tryz.prog 103 #[.slice A f.len c, .func (.func 80) #[] #[]] w fun e w' => (∃ i : Int, e = .returned (.int .i64 i) ∧ decide (0 ≤ i) = (!(nuL f).2)) ∧ Below w.heap.size w w' := by
  have HN := Lib.hid hn
  have HA := Lib.hid hat
  have HRP := Lib.hid hrp
  have IH := Lib.hid ih
  clear hn hat hrp ih
  go_enter Tryz.func103, Tryz.ntmps103
  go_wp2_with fail
  go_loopw [8] (fun iv wr => ∃ (q : Nat) (dn r : Fo), Hid (f = dn.app r) ∧ Hid (dn.len = q) ∧ iv = .int .i64 q ∧ Hid ((nuL r).2 = (nuL f).2) ∧ Hid (Below w.heap.size w wr)) (fun iv _ => f.len - (RowKit.intOf iv).toNat)
  case atStart => exact ⟨0, .nil, f, Lib.hid rfl, Lib.hid rfl, rfl, Lib.hid rfl, Lib.hid (Below.refl _ _)⟩
  case round =>
    obtain ⟨q, dn, r, hk, hq, rfl, hr, HB⟩ := hrel
    have hlen := Lib.hid (show f.len = q + r.len by rw [hk.out, Fo.app_len, hq.out])
    cases r with
    | nil =>
      have hlt : ¬ (q : Int) < f.len := by have := hlen.out; simp only [Fo.len] at this; omega
      have HT := Lib.hid (show (!(nuL f).2) = false by rw [← hr.out]; rfl)
      go_wp2_with fail
      go_ret
      exact ⟨⟨-1, rfl, by rw [HT.out]; rfl⟩, HB.out⟩
    | cons k1 l1 d1 mn1 mx1 r1 =>
      have hlt : (q : Int) < f.len := by have := hlen.out; simp only [Fo.len] at this; omega
      have hq0 : (0 : Int) ≤ q := by omega
      have hk2 : f = dn.app (.cons k1 l1 d1 mn1 mx1 r1) := hk.out
      obtain ⟨b0, o0, rfl⟩ := at_shape HA.out (by have := hlen.out; simp only [Fo.len] at this; omega)
      have h3 := HA.out.below HB.out
      rw [hk2] at h3
      obtain ⟨K1, c1, hcel, hc3, hc4, hat1⟩ := h3.nth hq.out
      obtain ⟨e0, e1, e2, e3, e4⟩ := hcel
      have hsz : d1.sz < n := by
        have h5 := congrArg Fo.sz hk2
        rw [Fo.app_sz] at h5
        have h6 := HN.out
        simp only [Fo.sz] at h5
        omega
      have hrr : Rp (.cons k1 l1 d1 mn1 mx1 .nil) := by
        have h5 := HRP.out
        rw [hk2] at h5
        have h6 := Rp.app h5
        exact ⟨h6.1, h6.2.1, trivial⟩
      have HCALL := Lib.hid (nu1_any n IH.out ⟨k1, l1, K1, c1, mn1, mx1, d1⟩ X wr hsz ⟨hc3, hc4, hat1⟩ hrr)
      unfold Nd.v at HCALL
      simp only at HCALL
      have hr2 := hr.out
      rw [nuL_cons] at hr2
      have hkk := Lib.hid (show f = (dn.app (.cons k1 l1 d1 mn1 mx1 .nil)).app r1 by rw [hk2, Fo.app_assoc]; rfl)
      have hqq := Lib.hid (show (dn.app (.cons k1 l1 d1 mn1 mx1 .nil)).len = q + 1 by rw [Fo.app_len, hq.out]; rfl)
      clear hsz hat1 h3 hk2 hrr
      cases hv : nuB k1 d1 mn1
      all_goals rw [hv] at HCALL hr2
      case false =>
        have HT := Lib.hid (show (!(nuL f).2) = true by rw [← hr2]; rfl)
        clear hv hr2
        go_wp2_with (first | (go_at_call 80; (with_reducible refine (HCALL.out).mono ?_); rintro e w2 ⟨rfl, hb2⟩; have HB2 := Lib.hid hb2; clear hb2))
        go_ret
        exact ⟨⟨q, rfl, by rw [HT.out]; exact decide_eq_true hq0⟩, HB.out.trans (HB2.out.mono HB.out.size)⟩
      case true =>
        have hr3 := Lib.hid (show (nuL r1).2 = (nuL f).2 by rw [← hr2]; rfl)
        clear hv hr2
        go_wp2_with (first | (go_at_call 80; (with_reducible refine (HCALL.out).mono ?_); rintro e w2 ⟨rfl, hb2⟩; have HB2 := Lib.hid hb2; clear hb2))
        exact ⟨⟨q + 1, _, r1, hkk, hqq, by go_num, hr3, Lib.hid (HB.out.trans (HB2.out.mono HB.out.size))⟩, by have := hlen.out; simp only [Fo.len] at this; simp [RowKit.intOf]; omega⟩
set_option maxRecDepth 100000 in
set_option maxHeartbeats 4000000 in
theorem contains_nn (n : Nat) (ih : NuC n) (A : Option Addr) (c : Nat) (f : Fo) (X : List Nat) (w : World) (hn : f.sz ≤ n) (hc : f.len ≤ c) (hc2 : c ≤ 9223372036854775807) (hat : At w X f A) (hrp : Rp f) :
    Calls Tryz.prog 79 #[.slice A f.len c, .func (.func 80) #[] #[]] w fun e w' => e = .returned (.bool (!(nuL f).2)) ∧ Below w.heap.size w w' := by
  have HC := Lib.hid (index_nn n ih A c f X w hn hc hc2 hat hrp)
  clear ih hat hrp
  generalize (!(nuL f).2) = B at *
  generalize f.len = L at *
  go_enter Tryz.func79, Tryz.ntmps79
  go_wp2_with (first | (go_at_call 103; (with_reducible refine (HC.out).mono ?_); rintro e w2 ⟨⟨i, rfl, hi⟩, hb2⟩; have HI := Lib.hid hi; have HB2 := Lib.hid hb2; clear hi hb2))
  all_goals (first | go_ret | skip)
  all_goals exact ⟨by have := HI.out; simp_all, HB2.out⟩
end Go.Proofs.YtpaehicfndkliaaGreatDoor.De


/- The walks of 'nullable', 'Nullable'. Condition: the path can be read. -/
namespace Go.Proofs.YtpaehicfndkliaaGreatDoor.De
open Go.RowKit Go.Lib Na Go.PN Pa

set_option maxRecDepth 100000 in
set_option maxHeartbeats 16000000 in
theorem nullable_n (n : Nat) : NuC n := by
  induction n with
  | zero => intro a X w hn; omega
  | succ n ih =>
    intro a X w hn hok hrp
    obtain ⟨k, l, A, c, mn, mx, kids⟩ := a
    obtain ⟨hc, hc2, hat⟩ := hok
    have hs : kids.sz ≤ n := Nat.le_of_lt_succ hn
    have h9 := hrp.1
    have hrk := hrp.2.1
    have HNU := Lib.hid (contains_nu n ih A c kids X (w.alloc (obj5 k l A kids.len c mn mx)) hs hc hc2 (hat.al _) hrk)
    have HNN := Lib.hid (contains_nn n ih A c kids X (w.alloc (obj5 k l A kids.len c mn mx)) hs hc hc2 (hat.al _) hrk)
    have HB := Lib.hid ((Below.refl _ w).alloc (Nat.le_refl _) (obj5 k l A kids.len c mn mx))
    have HDF := Lib.hid (show nuB k kids mn = nu1 k (nuL kids) mn from rfl)
    have HAT := Lib.hid hat
    have HRK := Lib.hid hrk
    have IH := Lib.hid ih
    unfold Nd.v
    simp only at *
    clear hat hrk ih hrp
    by_cases hk : k = 1 ∨ k = 6 ∨ k = 8
    · have HT := Lib.hid (show nuB k kids mn = true by rw [HDF.out]; unfold nu1; rw [if_pos hk])
      clear HDF HNU HNN
      generalize nuB k kids mn = RB at *
      rcases hk with rfl | rfl | rfl
      all_goals
        go_enter Tryz.func46, Tryz.ntmps46
        go_wp2_with fail
        go_ret
        exact ⟨by rw [HT.out]; rfl, HB.out⟩
    · by_cases h4 : k = 4
      · have HT := Lib.hid (show nuB k kids mn = (nuL kids).2 by rw [HDF.out]; unfold nu1; rw [if_neg hk, if_pos h4])
        clear HDF HNU
        generalize nuB k kids mn = RB at *
        generalize (nuL kids).2 = VB at *
        subst h4
        clear hk h9
        go_enter Tryz.func46, Tryz.ntmps46
        go_wp2_with (first | (go_at_call 79; (with_reducible refine (HNN.out).mono ?_); rintro e w2 ⟨rfl, hb2⟩; have HB2 := Lib.hid (HB.out.trans (hb2.mono HB.out.size)); clear hb2))
        go_ret
        exact ⟨by rw [HT.out]; simp, HB2.out⟩
      · by_cases hk9 : k = 9
        · have hl1 := h9 hk9
          obtain ⟨k1, l1, d1, mn1, mx1, hd⟩ := one_of hl1
          subst hd
          obtain ⟨b0, o0, rfl⟩ := at_shape HAT.out (by rw [hl1]; exact Nat.le_refl _)
          obtain ⟨b, o, K1, c1, ea, _, hcel, hc3, hc4, hat1, _⟩ := HAT.out
          injection ea with ea
          injection ea with ea1 ea2
          subst ea1 ea2
          obtain ⟨e0, e1, e2, e3, e4⟩ := hcel
          have hb0 : b0 < w.heap.size := cell_lt e0
          have HC := Lib.hid (IH.out ⟨k1, l1, K1, c1, mn1, mx1, d1⟩ X (w.alloc (obj5 k l (some ⟨b0, o0, none⟩) (Fo.cons k1 l1 d1 mn1 mx1 .nil).len c mn mx)) (by simp only [Fo.sz] at hs ⊢; omega) (Nd.ok.al ⟨hc3, hc4, hat1⟩ _) ⟨HRK.out.1, HRK.out.2.1, trivial⟩)
          unfold Nd.v at HC
          simp only at HC
          have HN1 := Lib.hid (show (nuL (.cons k1 l1 d1 mn1 mx1 .nil)).1 = nuB k1 d1 mn1 by rw [nuL_cons]; simp [nuL])
          have HE := Lib.hid (show nuB k (Fo.cons k1 l1 d1 mn1 mx1 .nil) mn = (decide (mn = 0) || nuB k1 d1 mn1) by rw [HDF.out]; unfold nu1; rw [if_neg hk, if_neg h4, if_pos hk9, HN1.out])
          clear HDF HNU HNN HN1 hk h9 h4
          generalize nuB k (Fo.cons k1 l1 d1 mn1 mx1 .nil) mn = RB at *
          generalize nuB k1 d1 mn1 = VB at *
          subst hk9
          simp only [Fo.len] at *
          by_cases hm : mn = 0
          · subst hm
            have HT := Lib.hid (show RB = true by rw [HE.out]; rfl)
            clear HE
            go_enter Tryz.func46, Tryz.ntmps46
            go_wp2_with fail
            go_ret
            exact ⟨by rw [HT.out]; rfl, HB.out⟩
          · have tm : (mn == 0) = false := by rw [beq_eq_false_iff_ne]; exact hm
            have HT := Lib.hid (show RB = VB by rw [HE.out, decide_eq_false hm]; rfl)
            clear HE hm
            go_enter Tryz.func46, Tryz.ntmps46
            go_wp2_with (first | (go_at_call 46; (with_reducible refine (HC.out).mono ?_); rintro e w2 ⟨rfl, hb2⟩; have HB2 := Lib.hid (HB.out.trans (hb2.mono HB.out.size)); clear hb2))
            go_ret
            exact ⟨by rw [HT.out]; rfl, HB2.out⟩
        · have HT := Lib.hid (show nuB k kids mn = (nuL kids).1 by rw [HDF.out]; unfold nu1; rw [if_neg hk, if_neg h4, if_neg hk9])
          have t1 : (k == 1) = false := by rw [beq_eq_false_iff_ne]; omega
          have t6 : (k == 6) = false := by rw [beq_eq_false_iff_ne]; omega
          have t8 : (k == 8) = false := by rw [beq_eq_false_iff_ne]; omega
          have t4 : (k == 4) = false := by rw [beq_eq_false_iff_ne]; omega
          have t9 : (k == 9) = false := by rw [beq_eq_false_iff_ne]; omega
          clear HDF HNN hk h4 hk9 h9
          generalize nuB k kids mn = RB at *
          generalize (nuL kids).1 = VB at *
          go_enter Tryz.func46, Tryz.ntmps46
          go_wp2_with (first | (go_at_call 79; (with_reducible refine (HNU.out).mono ?_); rintro e w2 ⟨rfl, hb2⟩; have HB2 := Lib.hid (HB.out.trans (hb2.mono HB.out.size)); clear hb2))
          go_ret
          exact ⟨by rw [HT.out]; rfl, HB2.out⟩
def NullB (k : Int) (l : ByteArray) (d : Fo) (mn mx : Int) : Bool := knownB k l d mn mx && nuB k d mn
set_option maxRecDepth 100000 in
set_option maxHeartbeats 4000000 in
theorem Nullable_any (a : Nd) (X : List Nat) (w : World) (h : a.ok w X) (hbd : Bd (a.fo .nil)) : Calls Tryz.prog 18 #[a.v] w fun e w' => e = .returned (.bool (NullB a.k a.l a.kids a.mn a.mx)) ∧ Below w.heap.size w w' := by
  have HB := Lib.hid ((Below.refl _ w).alloc (Nat.le_refl _) (obj5 a.k a.l a.A a.kids.len a.c a.mn a.mx))
  have HK := Lib.hid (known_any a X (w.alloc (obj5 a.k a.l a.A a.kids.len a.c a.mn a.mx)) (h.al _) hbd)
  have HY := Lib.hid (Bx.new w (.int .i64 a.k) (.string a.l) (.slice a.A a.kids.len a.c) (.int .i64 a.mn) (.int .i64 a.mx) 24)
  have HE := Lib.hid (show NullB a.k a.l a.kids a.mn a.mx = (knownB a.k a.l a.kids a.mn a.mx && nuB a.k a.kids a.mn) from rfl)
  cases hk : knownB a.k a.l a.kids a.mn a.mx
  · rw [hk] at HK
    have HT := Lib.hid (show NullB a.k a.l a.kids a.mn a.mx = false by rw [HE.out, hk]; rfl)
    unfold Nd.v at *
    clear h hbd HE hk
    generalize NullB a.k a.l a.kids a.mn a.mx = RB at *
    go_enter Tryz.func18, Tryz.ntmps18
    go_wp2_with (first | (go_at_call 38; (with_reducible refine (HK.out).mono ?_); rintro e w2 ⟨rfl, hb2⟩; have HB2 := Lib.hid (HB.out.trans (hb2.mono HB.out.size)); clear hb2))
    go_ret
    exact ⟨by rw [HT.out]; rfl, HB2.out⟩
  · rw [hk] at HK
    have HT := Lib.hid (show NullB a.k a.l a.kids a.mn a.mx = nuB a.k a.kids a.mn by rw [HE.out, hk]; rfl)
    have HC := Lib.hid (fun (w1 : World) (hb : Below w.heap.size w w1) => nullable_n (a.kids.sz + 1) a X w1 (Nat.lt_succ_self _) (h.below hb) (rp_known hk))
    unfold Nd.v at *
    clear h hbd HE hk
    generalize NullB a.k a.l a.kids a.mn a.mx = RB at *
    generalize nuB a.k a.kids a.mn = VB at *
    go_enter Tryz.func18, Tryz.ntmps18
    go_wp2_with (first
      | (go_at_call 38; (with_reducible refine (HK.out).mono ?_); rintro e w2 ⟨rfl, hb2⟩; have HB2 := Lib.hid (HB.out.trans (hb2.mono HB.out.size)); obtain ⟨⟨x0, x1, x2, x3, x4⟩, y0, y1, y2, y3, y4⟩ := bx_all (HY.out.below hb2); clear hb2)
      | (go_at_call 46; (with_reducible refine (HC.out _ HB2.out).mono ?_); rintro e w3 ⟨rfl, hb3⟩; have HB3 := Lib.hid (HB2.out.trans (hb3.mono HB2.out.size)); clear hb3))
    go_ret
    exact ⟨by rw [HT.out]; rfl, HB3.out⟩
end Go.Proofs.YtpaehicfndkliaaGreatDoor.De
