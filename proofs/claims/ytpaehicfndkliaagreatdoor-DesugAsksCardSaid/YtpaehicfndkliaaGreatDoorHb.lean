
/- The walks of the document's 'is', 'Is', 'May'. Condition: the path can be read. -/
import Derived.Test.YtpaehicfndkliaaGreatDoorDl
import Derived.Test.YtpaehicfndkliaaGreatDoorFe
import Derived.LoopTactic
namespace Go.Proofs.YtpaehicfndkliaaGreatDoor.De
open Go.RowKit Go.Lib Na Go.PN Pa

theorem mayL_one (k : Int) (l : ByteArray) (d : Fo) (mn mx : Int) (at_ : Int) : mayL (.cons k l d mn mx .nil) at_ = (kindN k d.len && decide (at_ ≤ 400) && mayL d (at_ + 1)) := by
  rw [mayL, mayL, Bool.and_true]
abbrev IsC (n : Nat) : Prop := ∀ (a : Nd) (X : List Nat) (at_ : Int) (w : World), a.kids.sz < n → a.ok w X → 0 ≤ at_ → at_ ≤ 401 → Calls Tryz.prog 48 #[a.v, .int .i64 at_] w fun e w' => e = .returned (.bool (mayL (a.fo .nil) at_)) ∧ Below w.heap.size w w' 
set_option maxRecDepth 100000 in
set_option maxHeartbeats 8000000 in
theorem ris_1 (n : Nat) (ih : IsC n) (l : ByteArray) (A : Option Addr) (c : Nat) (mn mx : Int) (kids : Fo) (at_ : Int) (w : World) (X : List Nat) (hs : kids.sz ≤ n) (hc : kids.len ≤ c) (hat : At w X kids A) (h0 : 0 ≤ at_) (h4 : at_ ≤ 400) :
    Calls Tryz.prog 48 #[.agg #[.int .i64 1, .string l, .slice A kids.len c, .int .i64 mn, .int .i64 mx], .int .i64 at_] w fun e w' => e = .returned (.bool (mayL (.cons 1 l kids mn mx .nil) at_)) ∧ Below w.heap.size w w' := by
  have hE : mayL (.cons 1 l kids mn mx .nil) at_ = (decide (kids.len = 0) && mayL kids (at_ + 1)) := by
    rw [mayL_one, decide_eq_true h4, Bool.and_true]; rfl
  have HWW := Lib.hid ((Below.refl _ w).alloc (Nat.le_refl _) (obj5 1 l A kids.len c mn mx))
  have t400 : decide (at_ > 400) = false := decide_eq_false (by omega)
  by_cases hl : kids.len = 0
  rotate_left
  · have tl : ((kids.len : Int) != 0) = true := by rw [bne_iff_ne]; omega
    have HE := Lib.hid (show mayL (.cons 1 l kids mn mx .nil) at_ = false by rw [hE, decide_eq_false hl]; rfl)
    generalize mayL (.cons 1 l kids mn mx .nil) at_ = R at *
    clear hE hl hat ih hs
    go_enter Tryz.func48, Tryz.ntmps48
    go_wp2_with fail
    go_ret
    exact ⟨by rw [HE.out]; rfl, HWW.out⟩
  have tl : ((kids.len : Int) != 0) = false := by rw [bne, show ((kids.len : Int) == 0) = true from by rw [beq_iff_eq]; omega]; rfl
  have HL := Lib.hid hl
  have HE := Lib.hid (show mayL (.cons 1 l kids mn mx .nil) at_ = mayL kids (at_ + 1) by rw [hE, decide_eq_true hl]; rfl)
  generalize mayL (.cons 1 l kids mn mx .nil) at_ = R at *
  have HR := Lib.hid (show R = true by rw [HE.out, nil_of hl]; rfl)
  clear hE hl hat ih hs HE
  go_enter Tryz.func48, Tryz.ntmps48
  go_wp2_with fail
  go_loop [6] (fun iv => iv = .int .i64 0) (fun _ => 0)
  case atStart => exact rfl
  case round =>
    obtain rfl := hrel
    go_wp2_with fail
    go_ret
    exact ⟨by rw [HR.out]; rfl, HWW.out⟩
set_option maxRecDepth 100000 in
set_option maxHeartbeats 8000000 in
theorem ris_2 (n : Nat) (ih : IsC n) (l : ByteArray) (A : Option Addr) (c : Nat) (mn mx : Int) (kids : Fo) (at_ : Int) (w : World) (X : List Nat) (hs : kids.sz ≤ n) (hc : kids.len ≤ c) (hat : At w X kids A) (h0 : 0 ≤ at_) (h4 : at_ ≤ 400) :
    Calls Tryz.prog 48 #[.agg #[.int .i64 2, .string l, .slice A kids.len c, .int .i64 mn, .int .i64 mx], .int .i64 at_] w fun e w' => e = .returned (.bool (mayL (.cons 2 l kids mn mx .nil) at_)) ∧ Below w.heap.size w w' := by
  have hE : mayL (.cons 2 l kids mn mx .nil) at_ = (decide (kids.len = 0) && mayL kids (at_ + 1)) := by
    rw [mayL_one, decide_eq_true h4, Bool.and_true]; rfl
  have HWW := Lib.hid ((Below.refl _ w).alloc (Nat.le_refl _) (obj5 2 l A kids.len c mn mx))
  have t400 : decide (at_ > 400) = false := decide_eq_false (by omega)
  by_cases hl : kids.len = 0
  rotate_left
  · have tl : ((kids.len : Int) != 0) = true := by rw [bne_iff_ne]; omega
    have HE := Lib.hid (show mayL (.cons 2 l kids mn mx .nil) at_ = false by rw [hE, decide_eq_false hl]; rfl)
    generalize mayL (.cons 2 l kids mn mx .nil) at_ = R at *
    clear hE hl hat ih hs
    go_enter Tryz.func48, Tryz.ntmps48
    go_wp2_with fail
    go_ret
    exact ⟨by rw [HE.out]; rfl, HWW.out⟩
  have tl : ((kids.len : Int) != 0) = false := by rw [bne, show ((kids.len : Int) == 0) = true from by rw [beq_iff_eq]; omega]; rfl
  have HL := Lib.hid hl
  have HE := Lib.hid (show mayL (.cons 2 l kids mn mx .nil) at_ = mayL kids (at_ + 1) by rw [hE, decide_eq_true hl]; rfl)
  generalize mayL (.cons 2 l kids mn mx .nil) at_ = R at *
  have HR := Lib.hid (show R = true by rw [HE.out, nil_of hl]; rfl)
  clear hE hl hat ih hs HE
  go_enter Tryz.func48, Tryz.ntmps48
  go_wp2_with fail
  go_loop [6] (fun iv => iv = .int .i64 0) (fun _ => 0)
  case atStart => exact rfl
  case round =>
    obtain rfl := hrel
    go_wp2_with fail
    go_ret
    exact ⟨by rw [HR.out]; rfl, HWW.out⟩
set_option maxRecDepth 100000 in
set_option maxHeartbeats 8000000 in
theorem ris_3 (n : Nat) (ih : IsC n) (l : ByteArray) (A : Option Addr) (c : Nat) (mn mx : Int) (kids : Fo) (at_ : Int) (w : World) (X : List Nat) (hs : kids.sz ≤ n) (hc : kids.len ≤ c) (hat : At w X kids A) (h0 : 0 ≤ at_) (h4 : at_ ≤ 400) :
    Calls Tryz.prog 48 #[.agg #[.int .i64 3, .string l, .slice A kids.len c, .int .i64 mn, .int .i64 mx], .int .i64 at_] w fun e w' => e = .returned (.bool (mayL (.cons 3 l kids mn mx .nil) at_)) ∧ Below w.heap.size w w' := by
  have hE : mayL (.cons 3 l kids mn mx .nil) at_ = (decide (kids.len = 0) && mayL kids (at_ + 1)) := by
    rw [mayL_one, decide_eq_true h4, Bool.and_true]; rfl
  have HWW := Lib.hid ((Below.refl _ w).alloc (Nat.le_refl _) (obj5 3 l A kids.len c mn mx))
  have t400 : decide (at_ > 400) = false := decide_eq_false (by omega)
  by_cases hl : kids.len = 0
  rotate_left
  · have tl : ((kids.len : Int) != 0) = true := by rw [bne_iff_ne]; omega
    have HE := Lib.hid (show mayL (.cons 3 l kids mn mx .nil) at_ = false by rw [hE, decide_eq_false hl]; rfl)
    generalize mayL (.cons 3 l kids mn mx .nil) at_ = R at *
    clear hE hl hat ih hs
    go_enter Tryz.func48, Tryz.ntmps48
    go_wp2_with fail
    go_ret
    exact ⟨by rw [HE.out]; rfl, HWW.out⟩
  have tl : ((kids.len : Int) != 0) = false := by rw [bne, show ((kids.len : Int) == 0) = true from by rw [beq_iff_eq]; omega]; rfl
  have HL := Lib.hid hl
  have HE := Lib.hid (show mayL (.cons 3 l kids mn mx .nil) at_ = mayL kids (at_ + 1) by rw [hE, decide_eq_true hl]; rfl)
  generalize mayL (.cons 3 l kids mn mx .nil) at_ = R at *
  have HR := Lib.hid (show R = true by rw [HE.out, nil_of hl]; rfl)
  clear hE hl hat ih hs HE
  go_enter Tryz.func48, Tryz.ntmps48
  go_wp2_with fail
  go_loop [6] (fun iv => iv = .int .i64 0) (fun _ => 0)
  case atStart => exact rfl
  case round =>
    obtain rfl := hrel
    go_wp2_with fail
    go_ret
    exact ⟨by rw [HR.out]; rfl, HWW.out⟩
set_option maxRecDepth 100000 in
set_option maxHeartbeats 8000000 in
theorem ris_6 (n : Nat) (ih : IsC n) (l : ByteArray) (A : Option Addr) (c : Nat) (mn mx : Int) (kids : Fo) (at_ : Int) (w : World) (X : List Nat) (hs : kids.sz ≤ n) (hc : kids.len ≤ c) (hat : At w X kids A) (h0 : 0 ≤ at_) (h4 : at_ ≤ 400) :
    Calls Tryz.prog 48 #[.agg #[.int .i64 6, .string l, .slice A kids.len c, .int .i64 mn, .int .i64 mx], .int .i64 at_] w fun e w' => e = .returned (.bool (mayL (.cons 6 l kids mn mx .nil) at_)) ∧ Below w.heap.size w w' := by
  have hE : mayL (.cons 6 l kids mn mx .nil) at_ = (decide (kids.len = 1) && mayL kids (at_ + 1)) := by
    rw [mayL_one, decide_eq_true h4, Bool.and_true]; rfl
  have HWW := Lib.hid ((Below.refl _ w).alloc (Nat.le_refl _) (obj5 6 l A kids.len c mn mx))
  have t400 : decide (at_ > 400) = false := decide_eq_false (by omega)
  by_cases hl : kids.len = 1
  rotate_left
  · have tl : ((kids.len : Int) != 1) = true := by rw [bne_iff_ne]; omega
    have HE := Lib.hid (show mayL (.cons 6 l kids mn mx .nil) at_ = false by rw [hE, decide_eq_false hl]; rfl)
    generalize mayL (.cons 6 l kids mn mx .nil) at_ = R at *
    clear hE hl hat ih hs
    go_enter Tryz.func48, Tryz.ntmps48
    go_wp2_with fail
    go_ret
    exact ⟨by rw [HE.out]; rfl, HWW.out⟩
  have tl : ((kids.len : Int) != 1) = false := by rw [bne, show ((kids.len : Int) == 1) = true from by rw [beq_iff_eq]; omega]; rfl
  have HL := Lib.hid hl
  have HE := Lib.hid (show mayL (.cons 6 l kids mn mx .nil) at_ = mayL kids (at_ + 1) by rw [hE, decide_eq_true hl]; rfl)
  generalize mayL (.cons 6 l kids mn mx .nil) at_ = R at *
  have HN := Lib.hid hs
  have HA := Lib.hid hat
  have IH := Lib.hid ih
  have H0 := Lib.hid h0
  have H4 := Lib.hid h4
  have tw : IntKind.i64.wrap (at_ + 1) = at_ + 1 := IntWalk.i64_in _ ⟨by omega, by omega⟩
  clear hE hl hat ih hs
  go_enter Tryz.func48, Tryz.ntmps48
  go_wp2_with fail
  go_loopw [6] (fun iv wr => ∃ (q : Nat) (dn r : Fo), Hid (kids = dn.app r) ∧ Hid (dn.len = q) ∧ iv = .int .i64 q ∧ Hid (mayL r (at_ + 1) = mayL kids (at_ + 1)) ∧ Hid (Below (w.heap.size + 1) (w.alloc (obj5 6 l A kids.len c mn mx)) wr)) (fun iv _ => kids.len - (RowKit.intOf iv).toNat)
  case atStart => exact ⟨0, .nil, kids, Lib.hid rfl, Lib.hid rfl, rfl, Lib.hid rfl, Lib.hid (Below.refl _ _)⟩
  case round =>
    obtain ⟨q, dn, r, hk, hq, rfl, HM, HB⟩ := hrel
    have hlen := Lib.hid (show kids.len = q + r.len by rw [hk.out, Fo.app_len, hq.out])
    have HB1 := Lib.hid (HWW.out.trans (HB.out.mono (by omega)))
    obtain ⟨hx0, hx1, hx2, hx3, hx4⟩ := box_cells _ _ _ _ _ _ _ HB.out
    clear hx0 hx1 hx3 hx4
    have hws := Lib.hid (show w.heap.size + 1 ≤ wr.heap.size by have := HB.out.size; simpa using this)
    cases r with
    | nil =>
      have hlt : ¬ (q : Int) < 1 := by have := hlen.out; have := HL.out; simp only [Fo.len] at *; omega
      have hlt2 : decide ((q : Int) < 1) = false := decide_eq_false hlt
      have hE := Lib.hid (show R = true by rw [HE.out, ← HM.out]; rfl)
      go_wp2_with fail
      go_ret
      exact ⟨by rw [hE.out]; rfl, HB1.out⟩
    | cons k1 l1 d1 mn1 mx1 r1 =>
      have hlt : (q : Int) < 1 := by have := hlen.out; have := HL.out; simp only [Fo.len] at *; omega
      have hlt2 : decide ((q : Int) < 1) = true := decide_eq_true hlt
      have hltb : (q : Int) < kids.len := by have := hlen.out; simp only [Fo.len] at this; omega
      have hq0 : (0 : Int) ≤ q := by omega
      obtain ⟨b0, o0, hA0⟩ := Nd.first (a := ⟨0, l, A, c, mn, mx, kids⟩) HA.out hk.out
      simp only at hA0
      subst hA0
      have h3 := HA.out.below HB1.out
      rw [hk.out] at h3
      obtain ⟨K1, c1, hcel, hc3, hc4, hat1⟩ := h3.nth hq.out
      obtain ⟨e0, e1, e2, e3, e4⟩ := hcel
      have hsz : d1.sz < n := by
        have h5 := congrArg Fo.sz hk.out
        rw [Fo.app_sz] at h5
        have h6 := HN.out
        simp only [Fo.sz] at h5
        omega
      have HC := Lib.hid (IH.out ⟨k1, l1, K1, c1, mn1, mx1, d1⟩ X (at_ + 1) wr hsz ⟨hc3, hc4, hat1⟩ (by have := H0.out; omega) (by have := H4.out; omega))
      unfold Nd.v Nd.fo at HC
      simp only at HC
      have HM1 := Lib.hid (show mayL kids (at_ + 1) = (mayL (.cons k1 l1 d1 mn1 mx1 .nil) (at_ + 1) && mayL r1 (at_ + 1)) by rw [← HM.out]; exact mayL_cons _ _ _ _ _ _ _)
      have hkk := Lib.hid (show kids = (dn.app (.cons k1 l1 d1 mn1 mx1 .nil)).app r1 by rw [hk.out, Fo.app_assoc]; rfl)
      have hqq := Lib.hid (show (dn.app (.cons k1 l1 d1 mn1 mx1 .nil)).len = q + 1 by rw [Fo.app_len, hq.out]; rfl)
      generalize mayL (.cons k1 l1 d1 mn1 mx1 .nil) (at_ + 1) = z at *
      clear hsz hat1 h3
      cases z
      · have hE := Lib.hid (show R = false by rw [HE.out, HM1.out]; rfl)
        go_wp2_with (go_at_call 48; (with_reducible refine (HC.out).mono ?_); rintro e w2 ⟨rfl, hb2⟩; have HB2 := Lib.hid (HB1.out.trans (hb2.mono HB1.out.size)); clear hb2)
        go_ret
        exact ⟨by rw [hE.out]; rfl, HB2.out⟩
      · have hE := Lib.hid (show mayL r1 (at_ + 1) = mayL kids (at_ + 1) by rw [HM1.out]; rfl)
        go_wp2_with (go_at_call 48; (with_reducible refine (HC.out).mono ?_); rintro e w2 ⟨rfl, hb2⟩; have HB2 := Lib.hid (HB.out.trans (hb2.mono hws.out)); clear hb2)
        exact ⟨⟨q + 1, _, r1, hkk, hqq, by go_num, hE, HB2⟩, by simp [RowKit.intOf]; omega⟩
set_option maxRecDepth 100000 in
set_option maxHeartbeats 8000000 in
theorem ris_4 (n : Nat) (ih : IsC n) (l : ByteArray) (A : Option Addr) (c : Nat) (mn mx : Int) (kids : Fo) (at_ : Int) (w : World) (X : List Nat) (hs : kids.sz ≤ n) (hc : kids.len ≤ c) (hat : At w X kids A) (h0 : 0 ≤ at_) (h4 : at_ ≤ 400) :
    Calls Tryz.prog 48 #[.agg #[.int .i64 4, .string l, .slice A kids.len c, .int .i64 mn, .int .i64 mx], .int .i64 at_] w fun e w' => e = .returned (.bool (mayL (.cons 4 l kids mn mx .nil) at_)) ∧ Below w.heap.size w w' := by
  have hE : mayL (.cons 4 l kids mn mx .nil) at_ = (decide (kids.len = 2) && mayL kids (at_ + 1)) := by
    rw [mayL_one, decide_eq_true h4, Bool.and_true]; rfl
  have HWW := Lib.hid ((Below.refl _ w).alloc (Nat.le_refl _) (obj5 4 l A kids.len c mn mx))
  have t400 : decide (at_ > 400) = false := decide_eq_false (by omega)
  by_cases hl : kids.len = 2
  rotate_left
  · have tl : ((kids.len : Int) != 2) = true := by rw [bne_iff_ne]; omega
    have HE := Lib.hid (show mayL (.cons 4 l kids mn mx .nil) at_ = false by rw [hE, decide_eq_false hl]; rfl)
    generalize mayL (.cons 4 l kids mn mx .nil) at_ = R at *
    clear hE hl hat ih hs
    go_enter Tryz.func48, Tryz.ntmps48
    go_wp2_with fail
    go_ret
    exact ⟨by rw [HE.out]; rfl, HWW.out⟩
  have tl : ((kids.len : Int) != 2) = false := by rw [bne, show ((kids.len : Int) == 2) = true from by rw [beq_iff_eq]; omega]; rfl
  have HL := Lib.hid hl
  have HE := Lib.hid (show mayL (.cons 4 l kids mn mx .nil) at_ = mayL kids (at_ + 1) by rw [hE, decide_eq_true hl]; rfl)
  generalize mayL (.cons 4 l kids mn mx .nil) at_ = R at *
  have HN := Lib.hid hs
  have HA := Lib.hid hat
  have IH := Lib.hid ih
  have H0 := Lib.hid h0
  have H4 := Lib.hid h4
  have tw : IntKind.i64.wrap (at_ + 1) = at_ + 1 := IntWalk.i64_in _ ⟨by omega, by omega⟩
  clear hE hl hat ih hs
  go_enter Tryz.func48, Tryz.ntmps48
  go_wp2_with fail
  go_loopw [6] (fun iv wr => ∃ (q : Nat) (dn r : Fo), Hid (kids = dn.app r) ∧ Hid (dn.len = q) ∧ iv = .int .i64 q ∧ Hid (mayL r (at_ + 1) = mayL kids (at_ + 1)) ∧ Hid (Below (w.heap.size + 1) (w.alloc (obj5 4 l A kids.len c mn mx)) wr)) (fun iv _ => kids.len - (RowKit.intOf iv).toNat)
  case atStart => exact ⟨0, .nil, kids, Lib.hid rfl, Lib.hid rfl, rfl, Lib.hid rfl, Lib.hid (Below.refl _ _)⟩
  case round =>
    obtain ⟨q, dn, r, hk, hq, rfl, HM, HB⟩ := hrel
    have hlen := Lib.hid (show kids.len = q + r.len by rw [hk.out, Fo.app_len, hq.out])
    have HB1 := Lib.hid (HWW.out.trans (HB.out.mono (by omega)))
    obtain ⟨hx0, hx1, hx2, hx3, hx4⟩ := box_cells _ _ _ _ _ _ _ HB.out
    clear hx0 hx1 hx3 hx4
    have hws := Lib.hid (show w.heap.size + 1 ≤ wr.heap.size by have := HB.out.size; simpa using this)
    cases r with
    | nil =>
      have hlt : ¬ (q : Int) < 2 := by have := hlen.out; have := HL.out; simp only [Fo.len] at *; omega
      have hlt2 : decide ((q : Int) < 2) = false := decide_eq_false hlt
      have hE := Lib.hid (show R = true by rw [HE.out, ← HM.out]; rfl)
      go_wp2_with fail
      go_ret
      exact ⟨by rw [hE.out]; rfl, HB1.out⟩
    | cons k1 l1 d1 mn1 mx1 r1 =>
      have hlt : (q : Int) < 2 := by have := hlen.out; have := HL.out; simp only [Fo.len] at *; omega
      have hlt2 : decide ((q : Int) < 2) = true := decide_eq_true hlt
      have hltb : (q : Int) < kids.len := by have := hlen.out; simp only [Fo.len] at this; omega
      have hq0 : (0 : Int) ≤ q := by omega
      obtain ⟨b0, o0, hA0⟩ := Nd.first (a := ⟨0, l, A, c, mn, mx, kids⟩) HA.out hk.out
      simp only at hA0
      subst hA0
      have h3 := HA.out.below HB1.out
      rw [hk.out] at h3
      obtain ⟨K1, c1, hcel, hc3, hc4, hat1⟩ := h3.nth hq.out
      obtain ⟨e0, e1, e2, e3, e4⟩ := hcel
      have hsz : d1.sz < n := by
        have h5 := congrArg Fo.sz hk.out
        rw [Fo.app_sz] at h5
        have h6 := HN.out
        simp only [Fo.sz] at h5
        omega
      have HC := Lib.hid (IH.out ⟨k1, l1, K1, c1, mn1, mx1, d1⟩ X (at_ + 1) wr hsz ⟨hc3, hc4, hat1⟩ (by have := H0.out; omega) (by have := H4.out; omega))
      unfold Nd.v Nd.fo at HC
      simp only at HC
      have HM1 := Lib.hid (show mayL kids (at_ + 1) = (mayL (.cons k1 l1 d1 mn1 mx1 .nil) (at_ + 1) && mayL r1 (at_ + 1)) by rw [← HM.out]; exact mayL_cons _ _ _ _ _ _ _)
      have hkk := Lib.hid (show kids = (dn.app (.cons k1 l1 d1 mn1 mx1 .nil)).app r1 by rw [hk.out, Fo.app_assoc]; rfl)
      have hqq := Lib.hid (show (dn.app (.cons k1 l1 d1 mn1 mx1 .nil)).len = q + 1 by rw [Fo.app_len, hq.out]; rfl)
      generalize mayL (.cons k1 l1 d1 mn1 mx1 .nil) (at_ + 1) = z at *
      clear hsz hat1 h3
      cases z
      · have hE := Lib.hid (show R = false by rw [HE.out, HM1.out]; rfl)
        go_wp2_with (go_at_call 48; (with_reducible refine (HC.out).mono ?_); rintro e w2 ⟨rfl, hb2⟩; have HB2 := Lib.hid (HB1.out.trans (hb2.mono HB1.out.size)); clear hb2)
        go_ret
        exact ⟨by rw [hE.out]; rfl, HB2.out⟩
      · have hE := Lib.hid (show mayL r1 (at_ + 1) = mayL kids (at_ + 1) by rw [HM1.out]; rfl)
        go_wp2_with (go_at_call 48; (with_reducible refine (HC.out).mono ?_); rintro e w2 ⟨rfl, hb2⟩; have HB2 := Lib.hid (HB.out.trans (hb2.mono hws.out)); clear hb2)
        exact ⟨⟨q + 1, _, r1, hkk, hqq, by go_num, hE, HB2⟩, by simp [RowKit.intOf]; omega⟩
set_option maxRecDepth 100000 in
set_option maxHeartbeats 8000000 in
theorem ris_5 (n : Nat) (ih : IsC n) (l : ByteArray) (A : Option Addr) (c : Nat) (mn mx : Int) (kids : Fo) (at_ : Int) (w : World) (X : List Nat) (hs : kids.sz ≤ n) (hc : kids.len ≤ c) (hat : At w X kids A) (h0 : 0 ≤ at_) (h4 : at_ ≤ 400) :
    Calls Tryz.prog 48 #[.agg #[.int .i64 5, .string l, .slice A kids.len c, .int .i64 mn, .int .i64 mx], .int .i64 at_] w fun e w' => e = .returned (.bool (mayL (.cons 5 l kids mn mx .nil) at_)) ∧ Below w.heap.size w w' := by
  have hE : mayL (.cons 5 l kids mn mx .nil) at_ = (decide (kids.len = 2) && mayL kids (at_ + 1)) := by
    rw [mayL_one, decide_eq_true h4, Bool.and_true]; rfl
  have HWW := Lib.hid ((Below.refl _ w).alloc (Nat.le_refl _) (obj5 5 l A kids.len c mn mx))
  have t400 : decide (at_ > 400) = false := decide_eq_false (by omega)
  by_cases hl : kids.len = 2
  rotate_left
  · have tl : ((kids.len : Int) != 2) = true := by rw [bne_iff_ne]; omega
    have HE := Lib.hid (show mayL (.cons 5 l kids mn mx .nil) at_ = false by rw [hE, decide_eq_false hl]; rfl)
    generalize mayL (.cons 5 l kids mn mx .nil) at_ = R at *
    clear hE hl hat ih hs
    go_enter Tryz.func48, Tryz.ntmps48
    go_wp2_with fail
    go_ret
    exact ⟨by rw [HE.out]; rfl, HWW.out⟩
  have tl : ((kids.len : Int) != 2) = false := by rw [bne, show ((kids.len : Int) == 2) = true from by rw [beq_iff_eq]; omega]; rfl
  have HL := Lib.hid hl
  have HE := Lib.hid (show mayL (.cons 5 l kids mn mx .nil) at_ = mayL kids (at_ + 1) by rw [hE, decide_eq_true hl]; rfl)
  generalize mayL (.cons 5 l kids mn mx .nil) at_ = R at *
  have HN := Lib.hid hs
  have HA := Lib.hid hat
  have IH := Lib.hid ih
  have H0 := Lib.hid h0
  have H4 := Lib.hid h4
  have tw : IntKind.i64.wrap (at_ + 1) = at_ + 1 := IntWalk.i64_in _ ⟨by omega, by omega⟩
  clear hE hl hat ih hs
  go_enter Tryz.func48, Tryz.ntmps48
  go_wp2_with fail
  go_loopw [6] (fun iv wr => ∃ (q : Nat) (dn r : Fo), Hid (kids = dn.app r) ∧ Hid (dn.len = q) ∧ iv = .int .i64 q ∧ Hid (mayL r (at_ + 1) = mayL kids (at_ + 1)) ∧ Hid (Below (w.heap.size + 1) (w.alloc (obj5 5 l A kids.len c mn mx)) wr)) (fun iv _ => kids.len - (RowKit.intOf iv).toNat)
  case atStart => exact ⟨0, .nil, kids, Lib.hid rfl, Lib.hid rfl, rfl, Lib.hid rfl, Lib.hid (Below.refl _ _)⟩
  case round =>
    obtain ⟨q, dn, r, hk, hq, rfl, HM, HB⟩ := hrel
    have hlen := Lib.hid (show kids.len = q + r.len by rw [hk.out, Fo.app_len, hq.out])
    have HB1 := Lib.hid (HWW.out.trans (HB.out.mono (by omega)))
    obtain ⟨hx0, hx1, hx2, hx3, hx4⟩ := box_cells _ _ _ _ _ _ _ HB.out
    clear hx0 hx1 hx3 hx4
    have hws := Lib.hid (show w.heap.size + 1 ≤ wr.heap.size by have := HB.out.size; simpa using this)
    cases r with
    | nil =>
      have hlt : ¬ (q : Int) < 2 := by have := hlen.out; have := HL.out; simp only [Fo.len] at *; omega
      have hlt2 : decide ((q : Int) < 2) = false := decide_eq_false hlt
      have hE := Lib.hid (show R = true by rw [HE.out, ← HM.out]; rfl)
      go_wp2_with fail
      go_ret
      exact ⟨by rw [hE.out]; rfl, HB1.out⟩
    | cons k1 l1 d1 mn1 mx1 r1 =>
      have hlt : (q : Int) < 2 := by have := hlen.out; have := HL.out; simp only [Fo.len] at *; omega
      have hlt2 : decide ((q : Int) < 2) = true := decide_eq_true hlt
      have hltb : (q : Int) < kids.len := by have := hlen.out; simp only [Fo.len] at this; omega
      have hq0 : (0 : Int) ≤ q := by omega
      obtain ⟨b0, o0, hA0⟩ := Nd.first (a := ⟨0, l, A, c, mn, mx, kids⟩) HA.out hk.out
      simp only at hA0
      subst hA0
      have h3 := HA.out.below HB1.out
      rw [hk.out] at h3
      obtain ⟨K1, c1, hcel, hc3, hc4, hat1⟩ := h3.nth hq.out
      obtain ⟨e0, e1, e2, e3, e4⟩ := hcel
      have hsz : d1.sz < n := by
        have h5 := congrArg Fo.sz hk.out
        rw [Fo.app_sz] at h5
        have h6 := HN.out
        simp only [Fo.sz] at h5
        omega
      have HC := Lib.hid (IH.out ⟨k1, l1, K1, c1, mn1, mx1, d1⟩ X (at_ + 1) wr hsz ⟨hc3, hc4, hat1⟩ (by have := H0.out; omega) (by have := H4.out; omega))
      unfold Nd.v Nd.fo at HC
      simp only at HC
      have HM1 := Lib.hid (show mayL kids (at_ + 1) = (mayL (.cons k1 l1 d1 mn1 mx1 .nil) (at_ + 1) && mayL r1 (at_ + 1)) by rw [← HM.out]; exact mayL_cons _ _ _ _ _ _ _)
      have hkk := Lib.hid (show kids = (dn.app (.cons k1 l1 d1 mn1 mx1 .nil)).app r1 by rw [hk.out, Fo.app_assoc]; rfl)
      have hqq := Lib.hid (show (dn.app (.cons k1 l1 d1 mn1 mx1 .nil)).len = q + 1 by rw [Fo.app_len, hq.out]; rfl)
      generalize mayL (.cons k1 l1 d1 mn1 mx1 .nil) (at_ + 1) = z at *
      clear hsz hat1 h3
      cases z
      · have hE := Lib.hid (show R = false by rw [HE.out, HM1.out]; rfl)
        go_wp2_with (go_at_call 48; (with_reducible refine (HC.out).mono ?_); rintro e w2 ⟨rfl, hb2⟩; have HB2 := Lib.hid (HB1.out.trans (hb2.mono HB1.out.size)); clear hb2)
        go_ret
        exact ⟨by rw [hE.out]; rfl, HB2.out⟩
      · have hE := Lib.hid (show mayL r1 (at_ + 1) = mayL kids (at_ + 1) by rw [HM1.out]; rfl)
        go_wp2_with (go_at_call 48; (with_reducible refine (HC.out).mono ?_); rintro e w2 ⟨rfl, hb2⟩; have HB2 := Lib.hid (HB.out.trans (hb2.mono hws.out)); clear hb2)
        exact ⟨⟨q + 1, _, r1, hkk, hqq, by go_num, hE, HB2⟩, by simp [RowKit.intOf]; omega⟩
set_option maxRecDepth 100000 in
set_option maxHeartbeats 8000000 in
theorem ris_else (k : Int) (hk : kindN k 0 = false ∧ kindN k 1 = false ∧ kindN k 2 = false) (l : ByteArray) (A : Option Addr) (c : Nat) (mn mx : Int) (kids : Fo) (at_ : Int) (w : World) (h4 : at_ ≤ 400) :
    Calls Tryz.prog 48 #[.agg #[.int .i64 k, .string l, .slice A kids.len c, .int .i64 mn, .int .i64 mx], .int .i64 at_] w fun e w' => e = .returned (.bool (mayL (.cons k l kids mn mx .nil) at_)) ∧ Below w.heap.size w w' := by
  obtain ⟨k0, k1, k2⟩ := hk
  have hn : ¬ (k = 1 ∨ k = 2 ∨ k = 3) ∧ ¬ (k = 4 ∨ k = 5) ∧ ¬ k = 6 := by
    unfold kindN at k0 k1 k2
    refine ⟨fun h => ?_, fun h => ?_, fun h => ?_⟩
    · rw [if_pos h] at k0; exact absurd k0 (by decide)
    · rw [if_neg (by omega), if_pos h] at k2; exact absurd k2 (by decide)
    · rw [if_neg (by omega), if_neg (by omega), if_pos h] at k1; exact absurd k1 (by decide)
  have HE := Lib.hid (show mayL (.cons k l kids mn mx .nil) at_ = false by
    rw [mayL_one]
    unfold kindN
    rw [if_neg hn.1, if_neg hn.2.1, if_neg hn.2.2]
    rfl)
  have HWW := Lib.hid ((Below.refl _ w).alloc (Nat.le_refl _) (obj5 k l A kids.len c mn mx))
  have t400 : decide (at_ > 400) = false := decide_eq_false (by omega)
  have t1 : (k == 1) = false := by rw [beq_eq_false_iff_ne]; omega
  have t2 : (k == 2) = false := by rw [beq_eq_false_iff_ne]; omega
  have t3 : (k == 3) = false := by rw [beq_eq_false_iff_ne]; omega
  have t4 : (k == 4) = false := by rw [beq_eq_false_iff_ne]; omega
  have t5 : (k == 5) = false := by rw [beq_eq_false_iff_ne]; omega
  have t6 : (k == 6) = false := by rw [beq_eq_false_iff_ne]; omega
  have tl : ((kids.len : Int) != -1) = true := by rw [bne_iff_ne]; omega
  generalize mayL (.cons k l kids mn mx .nil) at_ = R at *
  clear hn k0 k1 k2
  go_enter Tryz.func48, Tryz.ntmps48
  go_wp2_with fail
  go_ret
  exact ⟨by rw [HE.out]; rfl, HWW.out⟩
set_option maxRecDepth 100000 in
set_option maxHeartbeats 8000000 in
theorem ris_deep (k : Int) (l : ByteArray) (A : Option Addr) (c : Nat) (mn mx : Int) (kids : Fo) (at_ : Int) (w : World) (h4 : 400 < at_) :
    Calls Tryz.prog 48 #[.agg #[.int .i64 k, .string l, .slice A kids.len c, .int .i64 mn, .int .i64 mx], .int .i64 at_] w fun e w' => e = .returned (.bool (mayL (.cons k l kids mn mx .nil) at_)) ∧ Below w.heap.size w w' := by
  have HE := Lib.hid (show mayL (.cons k l kids mn mx .nil) at_ = false by
    rw [mayL_one, decide_eq_false (by omega), Bool.and_false]
    rfl)
  have HWW := Lib.hid ((Below.refl _ w).alloc (Nat.le_refl _) (obj5 k l A kids.len c mn mx))
  have t400 : decide (at_ > 400) = true := decide_eq_true (by omega)
  generalize mayL (.cons k l kids mn mx .nil) at_ = R at *
  go_enter Tryz.func48, Tryz.ntmps48
  go_wp2_with fail
  go_ret
  exact ⟨by rw [HE.out]; rfl, HWW.out⟩
theorem ris_n (n : Nat) : IsC n := by
  induction n with
  | zero => intro a X at_ w hn; omega
  | succ n ih =>
    intro a X at_ w hn hok h0 h1
    obtain ⟨k, l, A, c, mn, mx, kids⟩ := a
    obtain ⟨hc, hc2, hat⟩ := hok
    unfold Nd.v Nd.fo
    simp only at hn hc hc2 hat ⊢
    have hs : kids.sz ≤ n := Nat.le_of_lt_succ hn
    by_cases h4 : 400 < at_
    · exact ris_deep k l A c mn mx kids at_ w h4
    have h5 : at_ ≤ 400 := by omega
    rcases (show k = 1 ∨ k = 2 ∨ k = 3 ∨ k = 4 ∨ k = 5 ∨ k = 6 ∨ (¬ (k = 1 ∨ k = 2 ∨ k = 3) ∧ ¬ (k = 4 ∨ k = 5) ∧ ¬ k = 6) by omega) with rfl | rfl | rfl | rfl | rfl | rfl | ⟨h6, h7, h8⟩
    · exact ris_1 n ih l A c mn mx kids at_ w X hs hc hat h0 h5
    · exact ris_2 n ih l A c mn mx kids at_ w X hs hc hat h0 h5
    · exact ris_3 n ih l A c mn mx kids at_ w X hs hc hat h0 h5
    · exact ris_4 n ih l A c mn mx kids at_ w X hs hc hat h0 h5
    · exact ris_5 n ih l A c mn mx kids at_ w X hs hc hat h0 h5
    · exact ris_6 n ih l A c mn mx kids at_ w X hs hc hat h0 h5
    · exact ris_else k ⟨by unfold kindN; rw [if_neg h6, if_neg h7, if_neg h8], by unfold kindN; rw [if_neg h6, if_neg h7, if_neg h8], by unfold kindN; rw [if_neg h6, if_neg h7, if_neg h8]⟩ l A c mn mx kids at_ w h5
set_option maxRecDepth 100000 in
set_option maxHeartbeats 4000000 in
/-- The document's 'Is' is the program's. -/
theorem rIs_any (a : Nd) (X : List Nat) (w : World) (h : a.ok w X) : Calls Tryz.prog 21 #[a.v] w fun e w' => e = .returned (.bool (isB a.k a.l a.kids a.mn a.mx)) ∧ Below w.heap.size w w' := by
  have HC := Lib.hid (fun (w1 : World) (hb1 : Below w.heap.size w w1) => ris_n (a.kids.sz + 1) a X 1 w1 (Nat.lt_succ_self _) (h.below hb1) (by decide) (by decide))
  have HB := Lib.hid ((Below.refl _ w).alloc (Nat.le_refl _) (obj5 a.k a.l a.A a.kids.len a.c a.mn a.mx))
  have HE := Lib.hid (show mayL (a.fo .nil) 1 = isB a.k a.l a.kids a.mn a.mx from rfl)
  rw [HE.out] at HC
  unfold Nd.v at *
  clear h HE
  generalize isB a.k a.l a.kids a.mn a.mx = R at *
  go_enter Tryz.func21, Tryz.ntmps21
  go_wp2_with (go_at_call 48; (with_reducible refine (HC.out _ HB.out).mono ?_); rintro e w2 ⟨rfl, hb2⟩; have HB2 := Lib.hid (bt HB.out hb2 HB.out.size); clear hb2)
  go_ret
  exact ⟨rfl, HB2.out⟩
theorem knownB_or (k : Int) (l : ByteArray) (d : Fo) (mn mx : Int) : knownB k l d mn mx = (isB k l d mn mx || decide (checkE k l d mn mx = 0)) := Bool.or_comm _ _
set_option maxRecDepth 100000 in
set_option maxHeartbeats 4000000 in
/-- The document's 'May' is the program's 'known'. -/
theorem rMay_any (a : Nd) (X : List Nat) (w : World) (h : a.ok w X) (hlb : Lb (a.fo .nil)) (hs : a.kids.sz ≤ 1000000) : Calls Tryz.prog 49 #[a.v] w fun e w' => e = .returned (.bool (knownB a.k a.l a.kids a.mn a.mx)) ∧ Below w.heap.size w w' := by
  have HI := Lib.hid (fun (w1 : World) (hb1 : Below w.heap.size w w1) => rIs_any a X w1 (h.below hb1))
  have HC := Lib.hid (fun (w1 : World) (hb1 : Below w.heap.size w w1) => rCheck_any a X w1 (h.below hb1) hlb hs)
  have HB := Lib.hid ((Below.refl _ w).alloc (Nat.le_refl _) (obj5 a.k a.l a.A a.kids.len a.c a.mn a.mx))
  have HY := Lib.hid (Bx.new w (.int .i64 a.k) (.string a.l) (.slice a.A a.kids.len a.c) (.int .i64 a.mn) (.int .i64 a.mx) 24)
  have HE := Lib.hid (knownB_or a.k a.l a.kids a.mn a.mx)
  unfold Nd.v at *
  clear h hlb hs
  generalize isB a.k a.l a.kids a.mn a.mx = I at *
  generalize knownB a.k a.l a.kids a.mn a.mx = R at *
  generalize checkE a.k a.l a.kids a.mn a.mx = E at *
  cases I
  · by_cases h0 : E = 0
    · have HR := Lib.hid (show R = true by rw [HE.out, decide_eq_true h0]; rfl)
      subst h0
      clear HE
      go_enter Tryz.func49, Tryz.ntmps49
      go_wp2_with (first
        | (go_at_call 21; (with_reducible refine (HI.out _ HB.out).mono ?_); rintro e w2 ⟨rfl, hb2⟩; have HB2 := Lib.hid (bt HB.out hb2 HB.out.size); obtain ⟨⟨x0, x1, x2, x3, x4⟩, y0, y1, y2, y3, y4⟩ := bx_all (HY.out.below hb2); clear hb2)
        | (go_at_call 8; (with_reducible refine (HC.out _ HB2.out).mono ?_); rintro e w3 ⟨rfl, hb3⟩; have HB3 := Lib.hid (bt HB2.out hb3 HB2.out.size); clear hb3))
      go_ret
      exact ⟨by rw [HR.out]; rfl, HB3.out⟩
    · have HR := Lib.hid (show R = false by rw [HE.out, decide_eq_false h0]; rfl)
      have t0 : (E == 0) = false := by rw [beq_eq_false_iff_ne]; exact h0
      clear HE h0
      go_enter Tryz.func49, Tryz.ntmps49
      go_wp2_with (first
        | (go_at_call 21; (with_reducible refine (HI.out _ HB.out).mono ?_); rintro e w2 ⟨rfl, hb2⟩; have HB2 := Lib.hid (bt HB.out hb2 HB.out.size); obtain ⟨⟨x0, x1, x2, x3, x4⟩, y0, y1, y2, y3, y4⟩ := bx_all (HY.out.below hb2); clear hb2)
        | (go_at_call 8; (with_reducible refine (HC.out _ HB2.out).mono ?_); rintro e w3 ⟨rfl, hb3⟩; have HB3 := Lib.hid (bt HB2.out hb3 HB2.out.size); clear hb3))
      go_ret
      exact ⟨by rw [HR.out]; rfl, HB3.out⟩
  · have HR := Lib.hid (show R = true by rw [HE.out]; rfl)
    clear HE HC
    go_enter Tryz.func49, Tryz.ntmps49
    go_wp2_with (go_at_call 21; (with_reducible refine (HI.out _ HB.out).mono ?_); rintro e w2 ⟨rfl, hb2⟩; have HB2 := Lib.hid (bt HB.out hb2 HB.out.size); clear hb2)
    go_ret
    exact ⟨by rw [HR.out]; rfl, HB2.out⟩
end Go.Proofs.YtpaehicfndkliaaGreatDoor.De
