/- The walk of reading a double. Conditions: the library's tables are laid. -/
import Derived.Test.YtplhlpdcdemopaaDoorFl
import Derived.Outline
namespace Go.Proofs.YtplhlpdcdemopaaDoor
open Go.RowKit Go.FT Go.FX Go.Lib

theorem eqs {S : ByteArray} {l t : List UInt8} (h : S.data.toList = l) {b : Bool} (hb : decide (l = t) = b) : (S.toList == t) = b := by
  rw [ByteArray.toList_eq, h, ← hb, Bool.eq_iff_iff, beq_iff_eq, decide_eq_true_iff]
theorem eqs2 {S S2 : ByteArray} {l : List UInt8} (h : S2.data.toList = l) {b : Bool} (hb : decide (l = S.data.toList) = b) : (S2.toList == S.toList) = b := by
  rw [text_eq h, hb]
theorem of_nan (w : World) : Calls Tryd.prog 12 #[.int .u64 9221120237041090560] w fun e w' => e = .returned (.float .f64 NAN) ∧ w = w' := by
  have h := of_any 9221120237041090560 w (by decide)
  rw [show can 9221120237041090560 = NAN by decide] at h
  exact h
theorem neg_run {x : Nat} (hx : x < SGN) (w : World) : (Op.unary .neg (.float .f64 x)).run Tryd.prog w = .ok (.float .f64 (sg true x)) w := by
  have h := xor_sgn hx
  simp only [Op.unary, Op.negFloat]
  rw [show 2 ^ (FloatKind.f64.format.exponentBits + FloatKind.f64.format.fractionBits) = 9223372036854775808 by decide, h]
  rfl
theorem of_can (y : Nat) (hy : y < W64) (w : World) : Calls Tryd.prog 12 #[.int .u64 (can y : Nat)] w fun e w' => e = .returned (.float .f64 (can y)) ∧ w = w' := by
  have h := of_any (can y) w (can_lt hy)
  rw [can_can] at h
  exact h
theorem rs_size {S RS : ByteArray} (hS : S.size ≤ 4000000000) (h : RS.data.toList = rest S.data.toList) : RS.size < 4294967281 := by
  rw [size_eq] at hS ⊢
  rw [h]
  have := trim_len S.data.toList
  omega
theorem cut_rs {RS : ByteArray} {l r a c : List UInt8} {k : Bool} (h : RS.data.toList = l) (h2 : l = r) (h3 : cut r [98] = (a, c, k)) : cut RS.data.toList [98] = (a, c, k) := by rw [h, h2, h3]
theorem neqs2 {S S2 : ByteArray} {l : List UInt8} (h : S2.data.toList = l) {b : Bool} (hb : decide (l = S.data.toList) = b) : (S2.toList != S.toList) = !b := by
  rw [← eqs2 h hb]; rfl
def PR (S : ByteArray) (w w' : World) (e : Ending) : Prop := e = .returned (.tuple #[.float .f64 (pv S.data.toList).1, .int .i64 (pv S.data.toList).2]) ∧ Below w.heap.size w w'
theorem pr_of {S : ByteArray} {w w' : World} {v : Nat} {z : Int} (h : pv S.data.toList = (v, z)) (hb : Below w.heap.size w w') : PR S w w' (.returned (.tuple #[.float .f64 v, .int .i64 z])) := by
  unfold PR; rw [h]; exact ⟨rfl, hb⟩
set_option maxRecDepth 100000 in
set_option maxHeartbeats 1000000 in
theorem parseNanNY (S : ByteArray) (hS : S.size ≤ 4000000000) (HR0 : rest S.data.toList = sNan) (hng : neg S.data.toList = true) (hm : decide (T (sg true NAN) = S.data.toList) = true) (w : World) (hl : Lay w) :
    Calls Tryd.prog 13 #[.string S] w fun e w' => PR S w w' e := by
  have HK := Lib.hid (pv_held (y := sg true NAN) (by decide) (key_nan HR0 (y := sg true NAN) (by decide)))
  have HR := Lib.hid HR0
  have HNG := Lib.hid hng
  have HM := Lib.hid hm
  have hyy : sg true NAN < W64 := by decide
  have Q1 : Hid (decide (sNan = ([110, 97, 110] : List UInt8)) = true) := Lib.hid (by decide)
  have Q2 : Hid (decide (sNan = ([105, 110, 102] : List UInt8)) = false) := Lib.hid (by decide)
  obtain ⟨ca, cc, ck, hc⟩ : ∃ a c k, cut sNan [98] = (a, c, k) := ⟨_, _, _, rfl⟩
  have HC := Lib.hid hc
  clear HR0 hng hm hc
  have en := fun w => neg_run (x := NAN) (by decide) w
  go_enter Tryd.func13, Tryd.ntmps13
  go_wp2_with (first
    | (go_at_call 44; (with_reducible refine (cutp_any S _).mono ?_); rw [HNG.out]; rintro e w' ⟨RS, rfl, HRS, rfl⟩; have q1 := eqs (HRS.out.trans HR.out) (t := [110, 97, 110]) Q1.out; have q2 := eqs (HRS.out.trans HR.out) (t := [105, 110, 102]) Q2.out; have hrs := rs_size hS HRS.out; have hcut := Lib.hid (cut_rs HRS.out HR.out HC.out))
    | (go_at_call 45; (with_reducible refine (cutb_any RS hrs hcut.out _ hl).mono ?_); rintro e w' ⟨SA, SC, nq, rfl, HSA, HSC, rfl⟩; have hlw := hl.drewN nq)
    | (go_at_call 12; (with_reducible refine (of_nan _).mono ?_); rintro e w' ⟨rfl, rfl⟩)
    | (go_at_call 14; (with_reducible refine (text_tr (sg true NAN) hyy _ hlw).mono ?_); rintro e w2 ⟨S2, rfl, HS2, hb2⟩; have q3 := eqs2 HS2.out HM.out)
    | (go_at_call 27; (with_reducible refine (bits_any (sg true NAN) _ hyy).mono ?_); rintro e w' ⟨rfl, rfl⟩)
    | (go_at_call 12; (with_reducible refine (of_can (sg true NAN) hyy _).mono ?_); rintro e w' ⟨rfl, rfl⟩))
  go_ret2
  exact pr_of (HK.out.1 (of_decide_eq_true HM.out)) ((below_drewN (Below.refl _ _) _).trans (hb2.mono (Nat.le_refl _)))
set_option maxRecDepth 100000 in
set_option maxHeartbeats 1000000 in
theorem parseNanNQ (S : ByteArray) (hS : S.size ≤ 4000000000) (HR0 : rest S.data.toList = sNan) (hng : neg S.data.toList = true) (hm : decide (T (sg true NAN) = S.data.toList) = false) (w : World) (hl : Lay w) :
    Calls Tryd.prog 13 #[.string S] w fun e w' => PR S w w' e := by
  have HK := Lib.hid (pv_held (y := sg true NAN) (by decide) (key_nan HR0 (y := sg true NAN) (by decide)))
  have HR := Lib.hid HR0
  have HNG := Lib.hid hng
  have HM := Lib.hid hm
  have hyy : sg true NAN < W64 := by decide
  have Q1 : Hid (decide (sNan = ([110, 97, 110] : List UInt8)) = true) := Lib.hid (by decide)
  have Q2 : Hid (decide (sNan = ([105, 110, 102] : List UInt8)) = false) := Lib.hid (by decide)
  obtain ⟨ca, cc, ck, hc⟩ : ∃ a c k, cut sNan [98] = (a, c, k) := ⟨_, _, _, rfl⟩
  have HC := Lib.hid hc
  clear HR0 hng hm hc
  have en := fun w => neg_run (x := NAN) (by decide) w
  go_enter Tryd.func13, Tryd.ntmps13
  go_wp2_with (first
    | (go_at_call 44; (with_reducible refine (cutp_any S _).mono ?_); rw [HNG.out]; rintro e w' ⟨RS, rfl, HRS, rfl⟩; have q1 := eqs (HRS.out.trans HR.out) (t := [110, 97, 110]) Q1.out; have q2 := eqs (HRS.out.trans HR.out) (t := [105, 110, 102]) Q2.out; have hrs := rs_size hS HRS.out; have hcut := Lib.hid (cut_rs HRS.out HR.out HC.out))
    | (go_at_call 45; (with_reducible refine (cutb_any RS hrs hcut.out _ hl).mono ?_); rintro e w' ⟨SA, SC, nq, rfl, HSA, HSC, rfl⟩; have hlw := hl.drewN nq)
    | (go_at_call 12; (with_reducible refine (of_nan _).mono ?_); rintro e w' ⟨rfl, rfl⟩)
    | (go_at_call 14; (with_reducible refine (text_tr (sg true NAN) hyy _ hlw).mono ?_); rintro e w2 ⟨S2, rfl, HS2, hb2⟩; have q3 := eqs2 HS2.out HM.out)
    | (go_at_call 27; (with_reducible refine (bits_any (sg true NAN) _ hyy).mono ?_); rintro e w' ⟨rfl, rfl⟩)
    | (go_at_call 12; (with_reducible refine (of_can (sg true NAN) hyy _).mono ?_); rintro e w' ⟨rfl, rfl⟩))
  go_ret2
  exact pr_of (HK.out.2 (of_decide_eq_false HM.out)) ((below_drewN (Below.refl _ _) _).trans (hb2.mono (Nat.le_refl _)))
set_option maxRecDepth 100000 in
set_option maxHeartbeats 1000000 in
theorem parseNanPY (S : ByteArray) (hS : S.size ≤ 4000000000) (HR0 : rest S.data.toList = sNan) (hng : neg S.data.toList = false) (hm : decide (T (NAN) = S.data.toList) = true) (w : World) (hl : Lay w) :
    Calls Tryd.prog 13 #[.string S] w fun e w' => PR S w w' e := by
  have HK := Lib.hid (pv_held (y := NAN) (by decide) (key_nan HR0 (y := NAN) (by decide)))
  have HR := Lib.hid HR0
  have HNG := Lib.hid hng
  have HM := Lib.hid hm
  have hyy : NAN < W64 := by decide
  have Q1 : Hid (decide (sNan = ([110, 97, 110] : List UInt8)) = true) := Lib.hid (by decide)
  have Q2 : Hid (decide (sNan = ([105, 110, 102] : List UInt8)) = false) := Lib.hid (by decide)
  obtain ⟨ca, cc, ck, hc⟩ : ∃ a c k, cut sNan [98] = (a, c, k) := ⟨_, _, _, rfl⟩
  have HC := Lib.hid hc
  clear HR0 hng hm hc
  have en := fun w => neg_run (x := NAN) (by decide) w
  go_enter Tryd.func13, Tryd.ntmps13
  go_wp2_with (first
    | (go_at_call 44; (with_reducible refine (cutp_any S _).mono ?_); rw [HNG.out]; rintro e w' ⟨RS, rfl, HRS, rfl⟩; have q1 := eqs (HRS.out.trans HR.out) (t := [110, 97, 110]) Q1.out; have q2 := eqs (HRS.out.trans HR.out) (t := [105, 110, 102]) Q2.out; have hrs := rs_size hS HRS.out; have hcut := Lib.hid (cut_rs HRS.out HR.out HC.out))
    | (go_at_call 45; (with_reducible refine (cutb_any RS hrs hcut.out _ hl).mono ?_); rintro e w' ⟨SA, SC, nq, rfl, HSA, HSC, rfl⟩; have hlw := hl.drewN nq)
    | (go_at_call 12; (with_reducible refine (of_nan _).mono ?_); rintro e w' ⟨rfl, rfl⟩)
    | (go_at_call 14; (with_reducible refine (text_tr (NAN) hyy _ hlw).mono ?_); rintro e w2 ⟨S2, rfl, HS2, hb2⟩; have q3 := eqs2 HS2.out HM.out)
    | (go_at_call 27; (with_reducible refine (bits_any (NAN) _ hyy).mono ?_); rintro e w' ⟨rfl, rfl⟩)
    | (go_at_call 12; (with_reducible refine (of_can (NAN) hyy _).mono ?_); rintro e w' ⟨rfl, rfl⟩))
  go_ret2
  exact pr_of (HK.out.1 (of_decide_eq_true HM.out)) ((below_drewN (Below.refl _ _) _).trans (hb2.mono (Nat.le_refl _)))
set_option maxRecDepth 100000 in
set_option maxHeartbeats 1000000 in
theorem parseNanPQ (S : ByteArray) (hS : S.size ≤ 4000000000) (HR0 : rest S.data.toList = sNan) (hng : neg S.data.toList = false) (hm : decide (T (NAN) = S.data.toList) = false) (w : World) (hl : Lay w) :
    Calls Tryd.prog 13 #[.string S] w fun e w' => PR S w w' e := by
  have HK := Lib.hid (pv_held (y := NAN) (by decide) (key_nan HR0 (y := NAN) (by decide)))
  have HR := Lib.hid HR0
  have HNG := Lib.hid hng
  have HM := Lib.hid hm
  have hyy : NAN < W64 := by decide
  have Q1 : Hid (decide (sNan = ([110, 97, 110] : List UInt8)) = true) := Lib.hid (by decide)
  have Q2 : Hid (decide (sNan = ([105, 110, 102] : List UInt8)) = false) := Lib.hid (by decide)
  obtain ⟨ca, cc, ck, hc⟩ : ∃ a c k, cut sNan [98] = (a, c, k) := ⟨_, _, _, rfl⟩
  have HC := Lib.hid hc
  clear HR0 hng hm hc
  have en := fun w => neg_run (x := NAN) (by decide) w
  go_enter Tryd.func13, Tryd.ntmps13
  go_wp2_with (first
    | (go_at_call 44; (with_reducible refine (cutp_any S _).mono ?_); rw [HNG.out]; rintro e w' ⟨RS, rfl, HRS, rfl⟩; have q1 := eqs (HRS.out.trans HR.out) (t := [110, 97, 110]) Q1.out; have q2 := eqs (HRS.out.trans HR.out) (t := [105, 110, 102]) Q2.out; have hrs := rs_size hS HRS.out; have hcut := Lib.hid (cut_rs HRS.out HR.out HC.out))
    | (go_at_call 45; (with_reducible refine (cutb_any RS hrs hcut.out _ hl).mono ?_); rintro e w' ⟨SA, SC, nq, rfl, HSA, HSC, rfl⟩; have hlw := hl.drewN nq)
    | (go_at_call 12; (with_reducible refine (of_nan _).mono ?_); rintro e w' ⟨rfl, rfl⟩)
    | (go_at_call 14; (with_reducible refine (text_tr (NAN) hyy _ hlw).mono ?_); rintro e w2 ⟨S2, rfl, HS2, hb2⟩; have q3 := eqs2 HS2.out HM.out)
    | (go_at_call 27; (with_reducible refine (bits_any (NAN) _ hyy).mono ?_); rintro e w' ⟨rfl, rfl⟩)
    | (go_at_call 12; (with_reducible refine (of_can (NAN) hyy _).mono ?_); rintro e w' ⟨rfl, rfl⟩))
  go_ret2
  exact pr_of (HK.out.2 (of_decide_eq_false HM.out)) ((below_drewN (Below.refl _ _) _).trans (hb2.mono (Nat.le_refl _)))
set_option maxRecDepth 100000 in
set_option maxHeartbeats 1000000 in
theorem parseInfNY (S : ByteArray) (hS : S.size ≤ 4000000000) (HR0 : rest S.data.toList = sInf) (hng : neg S.data.toList = true) (hm : decide (T (sg true INF) = S.data.toList) = true) (w : World) (hl : Lay w) :
    Calls Tryd.prog 13 #[.string S] w fun e w' => PR S w w' e := by
  have HK := Lib.hid (pv_held (y := sg true INF) (by decide) ((by have := key_inf HR0; rw [hng] at this; exact this)))
  have HR := Lib.hid HR0
  have HNG := Lib.hid hng
  have HM := Lib.hid hm
  have hyy : sg true INF < W64 := by decide
  have Q1 : Hid (decide (sInf = ([110, 97, 110] : List UInt8)) = false) := Lib.hid (by decide)
  have Q2 : Hid (decide (sInf = ([105, 110, 102] : List UInt8)) = true) := Lib.hid (by decide)
  obtain ⟨ca, cc, ck, hc⟩ : ∃ a c k, cut sInf [98] = (a, c, k) := ⟨_, _, _, rfl⟩
  have HC := Lib.hid hc
  clear HR0 hng hm hc
  have en := fun w => neg_run (x := INF) (by decide) w
  go_enter Tryd.func13, Tryd.ntmps13
  go_wp2_with (first
    | (go_at_call 44; (with_reducible refine (cutp_any S _).mono ?_); rw [HNG.out]; rintro e w' ⟨RS, rfl, HRS, rfl⟩; have q1 := eqs (HRS.out.trans HR.out) (t := [110, 97, 110]) Q1.out; have q2 := eqs (HRS.out.trans HR.out) (t := [105, 110, 102]) Q2.out; have hrs := rs_size hS HRS.out; have hcut := Lib.hid (cut_rs HRS.out HR.out HC.out))
    | (go_at_call 45; (with_reducible refine (cutb_any RS hrs hcut.out _ hl).mono ?_); rintro e w' ⟨SA, SC, nq, rfl, HSA, HSC, rfl⟩; have hlw := hl.drewN nq)
    | (go_at_call 46; (with_reducible refine (inf_any _).mono ?_); rintro e w' ⟨rfl, rfl⟩)
    | (go_at_call 14; (with_reducible refine (text_tr (sg true INF) hyy _ hlw).mono ?_); rintro e w2 ⟨S2, rfl, HS2, hb2⟩; have q3 := eqs2 HS2.out HM.out)
    | (go_at_call 27; (with_reducible refine (bits_any (sg true INF) _ hyy).mono ?_); rintro e w' ⟨rfl, rfl⟩)
    | (go_at_call 12; (with_reducible refine (of_can (sg true INF) hyy _).mono ?_); rintro e w' ⟨rfl, rfl⟩))
  go_ret2
  exact pr_of (HK.out.1 (of_decide_eq_true HM.out)) ((below_drewN (Below.refl _ _) _).trans (hb2.mono (Nat.le_refl _)))
set_option maxRecDepth 100000 in
set_option maxHeartbeats 1000000 in
theorem parseInfNQ (S : ByteArray) (hS : S.size ≤ 4000000000) (HR0 : rest S.data.toList = sInf) (hng : neg S.data.toList = true) (hm : decide (T (sg true INF) = S.data.toList) = false) (w : World) (hl : Lay w) :
    Calls Tryd.prog 13 #[.string S] w fun e w' => PR S w w' e := by
  have HK := Lib.hid (pv_held (y := sg true INF) (by decide) ((by have := key_inf HR0; rw [hng] at this; exact this)))
  have HR := Lib.hid HR0
  have HNG := Lib.hid hng
  have HM := Lib.hid hm
  have hyy : sg true INF < W64 := by decide
  have Q1 : Hid (decide (sInf = ([110, 97, 110] : List UInt8)) = false) := Lib.hid (by decide)
  have Q2 : Hid (decide (sInf = ([105, 110, 102] : List UInt8)) = true) := Lib.hid (by decide)
  obtain ⟨ca, cc, ck, hc⟩ : ∃ a c k, cut sInf [98] = (a, c, k) := ⟨_, _, _, rfl⟩
  have HC := Lib.hid hc
  clear HR0 hng hm hc
  have en := fun w => neg_run (x := INF) (by decide) w
  go_enter Tryd.func13, Tryd.ntmps13
  go_wp2_with (first
    | (go_at_call 44; (with_reducible refine (cutp_any S _).mono ?_); rw [HNG.out]; rintro e w' ⟨RS, rfl, HRS, rfl⟩; have q1 := eqs (HRS.out.trans HR.out) (t := [110, 97, 110]) Q1.out; have q2 := eqs (HRS.out.trans HR.out) (t := [105, 110, 102]) Q2.out; have hrs := rs_size hS HRS.out; have hcut := Lib.hid (cut_rs HRS.out HR.out HC.out))
    | (go_at_call 45; (with_reducible refine (cutb_any RS hrs hcut.out _ hl).mono ?_); rintro e w' ⟨SA, SC, nq, rfl, HSA, HSC, rfl⟩; have hlw := hl.drewN nq)
    | (go_at_call 46; (with_reducible refine (inf_any _).mono ?_); rintro e w' ⟨rfl, rfl⟩)
    | (go_at_call 14; (with_reducible refine (text_tr (sg true INF) hyy _ hlw).mono ?_); rintro e w2 ⟨S2, rfl, HS2, hb2⟩; have q3 := eqs2 HS2.out HM.out)
    | (go_at_call 27; (with_reducible refine (bits_any (sg true INF) _ hyy).mono ?_); rintro e w' ⟨rfl, rfl⟩)
    | (go_at_call 12; (with_reducible refine (of_can (sg true INF) hyy _).mono ?_); rintro e w' ⟨rfl, rfl⟩))
  go_ret2
  exact pr_of (HK.out.2 (of_decide_eq_false HM.out)) ((below_drewN (Below.refl _ _) _).trans (hb2.mono (Nat.le_refl _)))
set_option maxRecDepth 100000 in
set_option maxHeartbeats 1000000 in
theorem parseInfPY (S : ByteArray) (hS : S.size ≤ 4000000000) (HR0 : rest S.data.toList = sInf) (hng : neg S.data.toList = false) (hm : decide (T (INF) = S.data.toList) = true) (w : World) (hl : Lay w) :
    Calls Tryd.prog 13 #[.string S] w fun e w' => PR S w w' e := by
  have HK := Lib.hid (pv_held (y := INF) (by decide) ((by have := key_inf HR0; rw [hng] at this; exact this)))
  have HR := Lib.hid HR0
  have HNG := Lib.hid hng
  have HM := Lib.hid hm
  have hyy : INF < W64 := by decide
  have Q1 : Hid (decide (sInf = ([110, 97, 110] : List UInt8)) = false) := Lib.hid (by decide)
  have Q2 : Hid (decide (sInf = ([105, 110, 102] : List UInt8)) = true) := Lib.hid (by decide)
  obtain ⟨ca, cc, ck, hc⟩ : ∃ a c k, cut sInf [98] = (a, c, k) := ⟨_, _, _, rfl⟩
  have HC := Lib.hid hc
  clear HR0 hng hm hc
  have en := fun w => neg_run (x := INF) (by decide) w
  go_enter Tryd.func13, Tryd.ntmps13
  go_wp2_with (first
    | (go_at_call 44; (with_reducible refine (cutp_any S _).mono ?_); rw [HNG.out]; rintro e w' ⟨RS, rfl, HRS, rfl⟩; have q1 := eqs (HRS.out.trans HR.out) (t := [110, 97, 110]) Q1.out; have q2 := eqs (HRS.out.trans HR.out) (t := [105, 110, 102]) Q2.out; have hrs := rs_size hS HRS.out; have hcut := Lib.hid (cut_rs HRS.out HR.out HC.out))
    | (go_at_call 45; (with_reducible refine (cutb_any RS hrs hcut.out _ hl).mono ?_); rintro e w' ⟨SA, SC, nq, rfl, HSA, HSC, rfl⟩; have hlw := hl.drewN nq)
    | (go_at_call 46; (with_reducible refine (inf_any _).mono ?_); rintro e w' ⟨rfl, rfl⟩)
    | (go_at_call 14; (with_reducible refine (text_tr (INF) hyy _ hlw).mono ?_); rintro e w2 ⟨S2, rfl, HS2, hb2⟩; have q3 := eqs2 HS2.out HM.out)
    | (go_at_call 27; (with_reducible refine (bits_any (INF) _ hyy).mono ?_); rintro e w' ⟨rfl, rfl⟩)
    | (go_at_call 12; (with_reducible refine (of_can (INF) hyy _).mono ?_); rintro e w' ⟨rfl, rfl⟩))
  go_ret2
  exact pr_of (HK.out.1 (of_decide_eq_true HM.out)) ((below_drewN (Below.refl _ _) _).trans (hb2.mono (Nat.le_refl _)))
set_option maxRecDepth 100000 in
set_option maxHeartbeats 1000000 in
theorem parseInfPQ (S : ByteArray) (hS : S.size ≤ 4000000000) (HR0 : rest S.data.toList = sInf) (hng : neg S.data.toList = false) (hm : decide (T (INF) = S.data.toList) = false) (w : World) (hl : Lay w) :
    Calls Tryd.prog 13 #[.string S] w fun e w' => PR S w w' e := by
  have HK := Lib.hid (pv_held (y := INF) (by decide) ((by have := key_inf HR0; rw [hng] at this; exact this)))
  have HR := Lib.hid HR0
  have HNG := Lib.hid hng
  have HM := Lib.hid hm
  have hyy : INF < W64 := by decide
  have Q1 : Hid (decide (sInf = ([110, 97, 110] : List UInt8)) = false) := Lib.hid (by decide)
  have Q2 : Hid (decide (sInf = ([105, 110, 102] : List UInt8)) = true) := Lib.hid (by decide)
  obtain ⟨ca, cc, ck, hc⟩ : ∃ a c k, cut sInf [98] = (a, c, k) := ⟨_, _, _, rfl⟩
  have HC := Lib.hid hc
  clear HR0 hng hm hc
  have en := fun w => neg_run (x := INF) (by decide) w
  go_enter Tryd.func13, Tryd.ntmps13
  go_wp2_with (first
    | (go_at_call 44; (with_reducible refine (cutp_any S _).mono ?_); rw [HNG.out]; rintro e w' ⟨RS, rfl, HRS, rfl⟩; have q1 := eqs (HRS.out.trans HR.out) (t := [110, 97, 110]) Q1.out; have q2 := eqs (HRS.out.trans HR.out) (t := [105, 110, 102]) Q2.out; have hrs := rs_size hS HRS.out; have hcut := Lib.hid (cut_rs HRS.out HR.out HC.out))
    | (go_at_call 45; (with_reducible refine (cutb_any RS hrs hcut.out _ hl).mono ?_); rintro e w' ⟨SA, SC, nq, rfl, HSA, HSC, rfl⟩; have hlw := hl.drewN nq)
    | (go_at_call 46; (with_reducible refine (inf_any _).mono ?_); rintro e w' ⟨rfl, rfl⟩)
    | (go_at_call 14; (with_reducible refine (text_tr (INF) hyy _ hlw).mono ?_); rintro e w2 ⟨S2, rfl, HS2, hb2⟩; have q3 := eqs2 HS2.out HM.out)
    | (go_at_call 27; (with_reducible refine (bits_any (INF) _ hyy).mono ?_); rintro e w' ⟨rfl, rfl⟩)
    | (go_at_call 12; (with_reducible refine (of_can (INF) hyy _).mono ?_); rintro e w' ⟨rfl, rfl⟩))
  go_ret2
  exact pr_of (HK.out.2 (of_decide_eq_false HM.out)) ((below_drewN (Below.refl _ _) _).trans (hb2.mono (Nat.le_refl _)))
end Go.Proofs.YtplhlpdcdemopaaDoor
