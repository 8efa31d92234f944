/- The walk of reading a double: what is no name of one. Conditions: the library's tables are laid. -/
import Derived.Test.YtplhlpdcdemopaaDoorFm
namespace Go.Proofs.YtplhlpdcdemopaaDoor
open Go.RowKit Go.FT Go.FX Go.Lib

theorem floatOfInt_F {z : Int} (h : 0 ≤ z) : floatOfInt .f64 z = F z.toNat := by
  unfold floatOfInt FloatKind.nearest
  show D.write (.number (decide (z < 0)) z.natAbs 0) = _
  rw [decide_eq_false (by omega), show z.natAbs = z.toNat by omega]
  rfl
theorem floatOfNat_F (n : Nat) : floatOfInt .f64 (n : Int) = F n := floatOfInt_F (by omega)
theorem part_size {S A : ByteArray} {r a : List UInt8} (hS : S.size ≤ 4000000000) (hr : rest S.data.toList = r) (hl : a.length ≤ r.length) (h : A.data.toList = a) : A.size ≤ 4294967281 := by
  rw [size_eq] at hS ⊢
  rw [h]
  have := trim_len S.data.toList
  rw [hr] at this
  omega
theorem drew_trans {w w' : World} {n : Nat} (h : Below w.heap.size (w.drewN n) w') : Below w.heap.size w w' := (below_drewN (Below.refl _ _) n).trans h
set_option maxRecDepth 100000 in
set_option maxHeartbeats 1000000 in
theorem parseNoCut (S : ByteArray) (hS : S.size ≤ 4000000000) {r a c : List UInt8} {ng : Bool} (HR : Hid (rest S.data.toList = r)) (HNG : Hid (neg S.data.toList = ng)) (h1 : r ≠ sNan) (h2 : r ≠ sInf) (HC : Hid (cut r [98] = (a, c, false)))  (w : World) (hl : Lay w) :
    Calls Tryd.prog 13 #[.string S] w fun e w' => PR S w w' e := by
  have Q1 : Hid (decide (r = ([110, 97, 110] : List UInt8)) = false) := Lib.hid (decide_eq_false h1)
  have Q2 : Hid (decide (r = ([105, 110, 102] : List UInt8)) = false) := Lib.hid (decide_eq_false h2)
  have HLA : Hid (a.length ≤ r.length) := Lib.hid (cut_len HC.out).1
  have HLC : Hid (c.length ≤ r.length) := Lib.hid (cut_len HC.out).2
  have HP : Hid (pv S.data.toList = (0, 16)) := Lib.hid (none_nocut (by rw [HR.out]; exact h1) (by rw [HR.out]; exact h2) (by rw [HR.out]; exact HC.out))
  clear h1 h2
  go_enter Tryd.func13, Tryd.ntmps13
  go_wp2_with (first
    | (go_at_call 44; (with_reducible refine (cutp_any S _).mono ?_); rw [HNG.out]; rintro e w' ⟨RS, rfl, HRS, rfl⟩; have q1 := eqs (HRS.out.trans HR.out) (t := [110, 97, 110]) Q1.out; have q2 := eqs (HRS.out.trans HR.out) (t := [105, 110, 102]) Q2.out; have hrs := rs_size hS HRS.out; have hcut := Lib.hid (cut_rs HRS.out HR.out HC.out))
    | (go_at_call 45; (with_reducible refine (cutb_any RS hrs hcut.out _ hl).mono ?_); rintro e w' ⟨SA, SC, nq, rfl, HSA, HSC, rfl⟩; have hlw := hl.drewN nq; have ha := part_size hS HR.out HLA.out HSA.out; have hc := part_size hS HR.out HLC.out HSC.out))
  go_ret2
  exact pr_of HP.out (below_drewN (Below.refl _ _) _)
set_option maxRecDepth 100000 in
set_option maxHeartbeats 1000000 in
theorem parseBadEO (S : ByteArray) (hS : S.size ≤ 4000000000) {r a c : List UInt8} {ng : Bool} (HR : Hid (rest S.data.toList = r)) (HNG : Hid (neg S.data.toList = ng)) (h1 : r ≠ sNan) (h2 : r ≠ sInf) (HC : Hid (cut r [98] = (a, c, true))) (hu : Hid (∀ n, parseUintB 64 a ≠ .ok n)) {k : Int} (hk : Hid (atoiAll c = .ok k)) (w : World) (hl : Lay w) :
    Calls Tryd.prog 13 #[.string S] w fun e w' => PR S w w' e := by
  have Q1 : Hid (decide (r = ([110, 97, 110] : List UInt8)) = false) := Lib.hid (decide_eq_false h1)
  have Q2 : Hid (decide (r = ([105, 110, 102] : List UInt8)) = false) := Lib.hid (decide_eq_false h2)
  have HLA : Hid (a.length ≤ r.length) := Lib.hid (cut_len HC.out).1
  have HLC : Hid (c.length ≤ r.length) := Lib.hid (cut_len HC.out).2
  have HP : Hid (pv S.data.toList = (0, 16)) := Lib.hid (none_bad (by rw [HR.out]; exact h1) (by rw [HR.out]; exact h2) (by rw [HR.out]; exact HC.out) (Or.inl hu.out))
  clear h1 h2
  go_enter Tryd.func13, Tryd.ntmps13
  go_wp2_with (first
    | (go_at_call 44; (with_reducible refine (cutp_any S _).mono ?_); rw [HNG.out]; rintro e w' ⟨RS, rfl, HRS, rfl⟩; have q1 := eqs (HRS.out.trans HR.out) (t := [110, 97, 110]) Q1.out; have q2 := eqs (HRS.out.trans HR.out) (t := [105, 110, 102]) Q2.out; have hrs := rs_size hS HRS.out; have hcut := Lib.hid (cut_rs HRS.out HR.out HC.out))
    | (go_at_call 45; (with_reducible refine (cutb_any RS hrs hcut.out _ hl).mono ?_); rintro e w' ⟨SA, SC, nq, rfl, HSA, HSC, rfl⟩; have hlw := hl.drewN nq; have ha := part_size hS HR.out HLA.out HSA.out; have hc := part_size hS HR.out HLC.out HSC.out)
    | (go_at_call 47; (with_reducible refine (pu_err SA ha HSA.out hu.out _ hlw).mono ?_); rintro e w1 ⟨u, Nu, rfl, hb1⟩; have hl1 := hlw.below hb1)
    | (go_at_call 48; (with_reducible refine (at_ok SC hc HSC.out hk.out _).mono ?_); rintro e w2 ⟨rfl, hb2⟩; have hl2 := hl1.below hb2))
  go_ret2
  exact pr_of HP.out (drew_trans (hb1.trans (hb2.mono hb1.size)))
set_option maxRecDepth 100000 in
set_option maxHeartbeats 1000000 in
theorem parseBadEE (S : ByteArray) (hS : S.size ≤ 4000000000) {r a c : List UInt8} {ng : Bool} (HR : Hid (rest S.data.toList = r)) (HNG : Hid (neg S.data.toList = ng)) (h1 : r ≠ sNan) (h2 : r ≠ sInf) (HC : Hid (cut r [98] = (a, c, true))) (hu : Hid (∀ n, parseUintB 64 a ≠ .ok n)) (hk : Hid (∀ n, atoiAll c ≠ .ok n)) (w : World) (hl : Lay w) :
    Calls Tryd.prog 13 #[.string S] w fun e w' => PR S w w' e := by
  have Q1 : Hid (decide (r = ([110, 97, 110] : List UInt8)) = false) := Lib.hid (decide_eq_false h1)
  have Q2 : Hid (decide (r = ([105, 110, 102] : List UInt8)) = false) := Lib.hid (decide_eq_false h2)
  have HLA : Hid (a.length ≤ r.length) := Lib.hid (cut_len HC.out).1
  have HLC : Hid (c.length ≤ r.length) := Lib.hid (cut_len HC.out).2
  have HP : Hid (pv S.data.toList = (0, 16)) := Lib.hid (none_bad (by rw [HR.out]; exact h1) (by rw [HR.out]; exact h2) (by rw [HR.out]; exact HC.out) (Or.inl hu.out))
  clear h1 h2
  go_enter Tryd.func13, Tryd.ntmps13
  go_wp2_with (first
    | (go_at_call 44; (with_reducible refine (cutp_any S _).mono ?_); rw [HNG.out]; rintro e w' ⟨RS, rfl, HRS, rfl⟩; have q1 := eqs (HRS.out.trans HR.out) (t := [110, 97, 110]) Q1.out; have q2 := eqs (HRS.out.trans HR.out) (t := [105, 110, 102]) Q2.out; have hrs := rs_size hS HRS.out; have hcut := Lib.hid (cut_rs HRS.out HR.out HC.out))
    | (go_at_call 45; (with_reducible refine (cutb_any RS hrs hcut.out _ hl).mono ?_); rintro e w' ⟨SA, SC, nq, rfl, HSA, HSC, rfl⟩; have hlw := hl.drewN nq; have ha := part_size hS HR.out HLA.out HSA.out; have hc := part_size hS HR.out HLC.out HSC.out)
    | (go_at_call 47; (with_reducible refine (pu_err SA ha HSA.out hu.out _ hlw).mono ?_); rintro e w1 ⟨u, Nu, rfl, hb1⟩; have hl1 := hlw.below hb1)
    | (go_at_call 48; (with_reducible refine (at_err SC hc HSC.out hk.out _ hl1).mono ?_); rintro e w2 ⟨k, Nk, rfl, hb2⟩; have hl2 := hl1.below hb2))
  go_ret2
  exact pr_of HP.out (drew_trans (hb1.trans (hb2.mono hb1.size)))
set_option maxRecDepth 100000 in
set_option maxHeartbeats 1000000 in
theorem parseBadOE (S : ByteArray) (hS : S.size ≤ 4000000000) {r a c : List UInt8} {ng : Bool} (HR : Hid (rest S.data.toList = r)) (HNG : Hid (neg S.data.toList = ng)) (h1 : r ≠ sNan) (h2 : r ≠ sInf) (HC : Hid (cut r [98] = (a, c, true))) {u : Nat} (hu : Hid (parseUintB 64 a = .ok u)) (hk : Hid (∀ n, atoiAll c ≠ .ok n)) (w : World) (hl : Lay w) :
    Calls Tryd.prog 13 #[.string S] w fun e w' => PR S w w' e := by
  have Q1 : Hid (decide (r = ([110, 97, 110] : List UInt8)) = false) := Lib.hid (decide_eq_false h1)
  have Q2 : Hid (decide (r = ([105, 110, 102] : List UInt8)) = false) := Lib.hid (decide_eq_false h2)
  have HLA : Hid (a.length ≤ r.length) := Lib.hid (cut_len HC.out).1
  have HLC : Hid (c.length ≤ r.length) := Lib.hid (cut_len HC.out).2
  have HP : Hid (pv S.data.toList = (0, 16)) := Lib.hid (none_bad (by rw [HR.out]; exact h1) (by rw [HR.out]; exact h2) (by rw [HR.out]; exact HC.out) (Or.inr (Or.inl hk.out)))
  clear h1 h2
  go_enter Tryd.func13, Tryd.ntmps13
  go_wp2_with (first
    | (go_at_call 44; (with_reducible refine (cutp_any S _).mono ?_); rw [HNG.out]; rintro e w' ⟨RS, rfl, HRS, rfl⟩; have q1 := eqs (HRS.out.trans HR.out) (t := [110, 97, 110]) Q1.out; have q2 := eqs (HRS.out.trans HR.out) (t := [105, 110, 102]) Q2.out; have hrs := rs_size hS HRS.out; have hcut := Lib.hid (cut_rs HRS.out HR.out HC.out))
    | (go_at_call 45; (with_reducible refine (cutb_any RS hrs hcut.out _ hl).mono ?_); rintro e w' ⟨SA, SC, nq, rfl, HSA, HSC, rfl⟩; have hlw := hl.drewN nq; have ha := part_size hS HR.out HLA.out HSA.out; have hc := part_size hS HR.out HLC.out HSC.out)
    | (go_at_call 47; (with_reducible refine (pu_ok SA ha HSA.out hu.out _).mono ?_); rintro e w1 ⟨rfl, hb1⟩; have hl1 := hlw.below hb1)
    | (go_at_call 48; (with_reducible refine (at_err SC hc HSC.out hk.out _ hl1).mono ?_); rintro e w2 ⟨k, Nk, rfl, hb2⟩; have hl2 := hl1.below hb2))
  go_ret2
  exact pr_of HP.out (drew_trans (hb1.trans (hb2.mono hb1.size)))
set_option maxRecDepth 100000 in
set_option maxHeartbeats 1000000 in
theorem parseBadBig (S : ByteArray) (hS : S.size ≤ 4000000000) {r a c : List UInt8} {ng : Bool} (HR : Hid (rest S.data.toList = r)) (HNG : Hid (neg S.data.toList = ng)) (h1 : r ≠ sNan) (h2 : r ≠ sInf) (HC : Hid (cut r [98] = (a, c, true))) {u : Nat} (hu : Hid (parseUintB 64 a = .ok u)) {k : Int} (hk : Hid (atoiAll c = .ok k)) (hbig : 9007199254740992 ≤ u) (w : World) (hl : Lay w) :
    Calls Tryd.prog 13 #[.string S] w fun e w' => PR S w w' e := by
  have Q1 : Hid (decide (r = ([110, 97, 110] : List UInt8)) = false) := Lib.hid (decide_eq_false h1)
  have Q2 : Hid (decide (r = ([105, 110, 102] : List UInt8)) = false) := Lib.hid (decide_eq_false h2)
  have HLA : Hid (a.length ≤ r.length) := Lib.hid (cut_len HC.out).1
  have HLC : Hid (c.length ≤ r.length) := Lib.hid (cut_len HC.out).2
  have HP : Hid (pv S.data.toList = (0, 16)) := Lib.hid (none_bad (by rw [HR.out]; exact h1) (by rw [HR.out]; exact h2) (by rw [HR.out]; exact HC.out) (Or.inr (Or.inr ⟨u, hu.out, hbig⟩)))
  have hbg : (9007199254740992 : Int) ≤ u := by omega
  clear hbig
  clear h1 h2
  go_enter Tryd.func13, Tryd.ntmps13
  go_wp2_with (first
    | (go_at_call 44; (with_reducible refine (cutp_any S _).mono ?_); rw [HNG.out]; rintro e w' ⟨RS, rfl, HRS, rfl⟩; have q1 := eqs (HRS.out.trans HR.out) (t := [110, 97, 110]) Q1.out; have q2 := eqs (HRS.out.trans HR.out) (t := [105, 110, 102]) Q2.out; have hrs := rs_size hS HRS.out; have hcut := Lib.hid (cut_rs HRS.out HR.out HC.out))
    | (go_at_call 45; (with_reducible refine (cutb_any RS hrs hcut.out _ hl).mono ?_); rintro e w' ⟨SA, SC, nq, rfl, HSA, HSC, rfl⟩; have hlw := hl.drewN nq; have ha := part_size hS HR.out HLA.out HSA.out; have hc := part_size hS HR.out HLC.out HSC.out)
    | (go_at_call 47; (with_reducible refine (pu_ok SA ha HSA.out hu.out _).mono ?_); rintro e w1 ⟨rfl, hb1⟩; have hl1 := hlw.below hb1)
    | (go_at_call 48; (with_reducible refine (at_ok SC hc HSC.out hk.out _).mono ?_); rintro e w2 ⟨rfl, hb2⟩; have hl2 := hl1.below hb2))
  go_ret2
  exact pr_of HP.out (drew_trans (hb1.trans (hb2.mono hb1.size)))
theorem lt_sgn {y : Nat} (h : y ≤ INF) : y < SGN := Nat.lt_of_le_of_lt h (by decide)
theorem lt_w {y : Nat} (h : y ≤ INF) : y < W64 := Nat.lt_of_le_of_lt h (by decide)
theorem key_sg {S : ByteArray} {y : Nat} (h : neg S.data.toList = true) (hk : ∀ b, b < W64 → T b = S.data.toList → can b = can (sg (neg S.data.toList) y)) : ∀ b, b < W64 → T b = S.data.toList → can b = can (sg true y) := by rw [h] at hk; exact hk
theorem key_ps {S : ByteArray} {y : Nat} (h : neg S.data.toList = false) (hk : ∀ b, b < W64 → T b = S.data.toList → can b = can (sg (neg S.data.toList) y)) : ∀ b, b < W64 → T b = S.data.toList → can b = can y := by rw [h] at hk; exact hk
set_option maxRecDepth 100000 in
set_option maxHeartbeats 1000000 in
theorem parseOkN (S : ByteArray) (hS : S.size ≤ 4000000000) {r a c : List UInt8} (HR : Hid (rest S.data.toList = r)) (HNG : Hid (neg S.data.toList = true)) (h1 : r ≠ sNan) (h2 : r ≠ sInf) (HC : Hid (cut r [98] = (a, c, true))) {u : Nat} (hu : Hid (parseUintB 64 a = .ok u)) {k : Int} (hk : Hid (atoiAll c = .ok k)) (hu2 : u < 2 * B) (w : World) (hl : Lay w) :
    Calls Tryd.prog 13 #[.string S] w fun e w' => PR S w w' e := by
  have Q1 : Hid (decide (r = ([110, 97, 110] : List UInt8)) = false) := Lib.hid (decide_eq_false h1)
  have Q2 : Hid (decide (r = ([105, 110, 102] : List UInt8)) = false) := Lib.hid (decide_eq_false h2)
  have HLA : Hid (a.length ≤ r.length) := Lib.hid (cut_len HC.out).1
  have HLC : Hid (c.length ≤ r.length) := Lib.hid (cut_len HC.out).2
  have HH1 : Hid (rest S.data.toList ≠ sNan) := Lib.hid (by rw [HR.out]; exact h1)
  have HH2 : Hid (rest S.data.toList ≠ sInf) := Lib.hid (by rw [HR.out]; exact h2)
  have HCC : Hid (cut (rest S.data.toList) [98] = (a, c, true)) := Lib.hid (by rw [HR.out]; exact HC.out)
  have hb0 := atoiAll_bounds hk.out
  have HB0 := Lib.hid hb0
  have hf := floatOfNat_F u
  have hu3 : decide ((9007199254740992 : Int) ≤ u) = false := decide_eq_false (by unfold B at hu2; omega)
  have HU2 := Lib.hid hu2
  clear hu2
  clear hb0
  clear h1 h2
  go_enter Tryd.func13, Tryd.ntmps13
  go_wp2_with (first
    | (go_at_call 44; (with_reducible refine (cutp_any S _).mono ?_); rw [HNG.out]; rintro e w' ⟨RS, rfl, HRS, rfl⟩; have q1 := eqs (HRS.out.trans HR.out) (t := [110, 97, 110]) Q1.out; have q2 := eqs (HRS.out.trans HR.out) (t := [105, 110, 102]) Q2.out; have hrs := rs_size hS HRS.out; have hcut := Lib.hid (cut_rs HRS.out HR.out HC.out))
    | (go_at_call 45; (with_reducible refine (cutb_any RS hrs hcut.out _ hl).mono ?_); rintro e w' ⟨SA, SC, nq, rfl, HSA, HSC, rfl⟩; have hlw := hl.drewN nq; have ha := part_size hS HR.out HLA.out HSA.out; have hc := part_size hS HR.out HLC.out HSC.out)
    | (go_at_call 47; (with_reducible refine (pu_ok SA ha HSA.out hu.out _).mono ?_); rintro e w1 ⟨rfl, hb1⟩; have hl1 := hlw.below hb1)
    | (go_at_call 48; (with_reducible refine (at_ok SC hc HSC.out hk.out _).mono ?_); rintro e w2 ⟨rfl, hb2⟩; have hl2 := hl1.below hb2)
    | (go_at_call 49; (with_reducible refine (ldexp_any u HU2.out k HB0.out.1 HB0.out.2 _).mono ?_); rintro e w' ⟨y, rfl, hy1, hy2, rfl⟩; have hys := lt_sgn hy1; have en := fun w => neg_run (x := y) hys w; have hyy := sg_lt (n := true) hys; have HKY := Lib.hid (pv_held hyy (key_sg HNG.out (key_num HH1.out HH2.out HCC.out hu.out hk.out hy2))))
    | (go_at_call 14; (with_reducible refine (text_tr (sg true y) hyy _ hl2).mono ?_); rintro e w3 ⟨S2, rfl, HS2, hb3⟩; have q3 := Lib.hid (text_eq (S := S) HS2.out))
    | (go_at_call 27; (with_reducible refine (bits_any (sg true y) _ hyy).mono ?_); rintro e w' ⟨rfl, rfl⟩)
    | (go_at_call 12; (with_reducible refine (of_can (sg true y) hyy _).mono ?_); rintro e w' ⟨rfl, rfl⟩))
  · go_ret2
    have hq : (!S2.toList == S.toList) = true := by assumption
    rw [q3.out] at hq
    exact pr_of (HKY.out.2 (of_decide_eq_false (by simpa using hq))) (drew_trans ((hb1.trans (hb2.mono hb1.size)).trans (hb3.mono (hb1.trans (hb2.mono hb1.size)).size)))
  · go_ret2
    have hq : (!S2.toList == S.toList) = false := by assumption
    rw [q3.out] at hq
    exact pr_of (HKY.out.1 (of_decide_eq_true (by simpa using hq))) (drew_trans ((hb1.trans (hb2.mono hb1.size)).trans (hb3.mono (hb1.trans (hb2.mono hb1.size)).size)))
set_option maxRecDepth 100000 in
set_option maxHeartbeats 1000000 in
theorem parseOkP (S : ByteArray) (hS : S.size ≤ 4000000000) {r a c : List UInt8} (HR : Hid (rest S.data.toList = r)) (HNG : Hid (neg S.data.toList = false)) (h1 : r ≠ sNan) (h2 : r ≠ sInf) (HC : Hid (cut r [98] = (a, c, true))) {u : Nat} (hu : Hid (parseUintB 64 a = .ok u)) {k : Int} (hk : Hid (atoiAll c = .ok k)) (hu2 : u < 2 * B) (w : World) (hl : Lay w) :
    Calls Tryd.prog 13 #[.string S] w fun e w' => PR S w w' e := by
  have Q1 : Hid (decide (r = ([110, 97, 110] : List UInt8)) = false) := Lib.hid (decide_eq_false h1)
  have Q2 : Hid (decide (r = ([105, 110, 102] : List UInt8)) = false) := Lib.hid (decide_eq_false h2)
  have HLA : Hid (a.length ≤ r.length) := Lib.hid (cut_len HC.out).1
  have HLC : Hid (c.length ≤ r.length) := Lib.hid (cut_len HC.out).2
  have HH1 : Hid (rest S.data.toList ≠ sNan) := Lib.hid (by rw [HR.out]; exact h1)
  have HH2 : Hid (rest S.data.toList ≠ sInf) := Lib.hid (by rw [HR.out]; exact h2)
  have HCC : Hid (cut (rest S.data.toList) [98] = (a, c, true)) := Lib.hid (by rw [HR.out]; exact HC.out)
  have hb0 := atoiAll_bounds hk.out
  have HB0 := Lib.hid hb0
  have hf := floatOfNat_F u
  have hu3 : decide ((9007199254740992 : Int) ≤ u) = false := decide_eq_false (by unfold B at hu2; omega)
  have HU2 := Lib.hid hu2
  clear hu2
  clear hb0
  clear h1 h2
  go_enter Tryd.func13, Tryd.ntmps13
  go_wp2_with (first
    | (go_at_call 44; (with_reducible refine (cutp_any S _).mono ?_); rw [HNG.out]; rintro e w' ⟨RS, rfl, HRS, rfl⟩; have q1 := eqs (HRS.out.trans HR.out) (t := [110, 97, 110]) Q1.out; have q2 := eqs (HRS.out.trans HR.out) (t := [105, 110, 102]) Q2.out; have hrs := rs_size hS HRS.out; have hcut := Lib.hid (cut_rs HRS.out HR.out HC.out))
    | (go_at_call 45; (with_reducible refine (cutb_any RS hrs hcut.out _ hl).mono ?_); rintro e w' ⟨SA, SC, nq, rfl, HSA, HSC, rfl⟩; have hlw := hl.drewN nq; have ha := part_size hS HR.out HLA.out HSA.out; have hc := part_size hS HR.out HLC.out HSC.out)
    | (go_at_call 47; (with_reducible refine (pu_ok SA ha HSA.out hu.out _).mono ?_); rintro e w1 ⟨rfl, hb1⟩; have hl1 := hlw.below hb1)
    | (go_at_call 48; (with_reducible refine (at_ok SC hc HSC.out hk.out _).mono ?_); rintro e w2 ⟨rfl, hb2⟩; have hl2 := hl1.below hb2)
    | (go_at_call 49; (with_reducible refine (ldexp_any u HU2.out k HB0.out.1 HB0.out.2 _).mono ?_); rintro e w' ⟨y, rfl, hy1, hy2, rfl⟩; have hys := lt_sgn hy1; have en := fun w => neg_run (x := y) hys w; have hyy := lt_w hy1; have HKY := Lib.hid (pv_held hyy (key_ps HNG.out (key_num HH1.out HH2.out HCC.out hu.out hk.out hy2))))
    | (go_at_call 14; (with_reducible refine (text_tr (y) hyy _ hl2).mono ?_); rintro e w3 ⟨S2, rfl, HS2, hb3⟩; have q3 := Lib.hid (text_eq (S := S) HS2.out))
    | (go_at_call 27; (with_reducible refine (bits_any (y) _ hyy).mono ?_); rintro e w' ⟨rfl, rfl⟩)
    | (go_at_call 12; (with_reducible refine (of_can (y) hyy _).mono ?_); rintro e w' ⟨rfl, rfl⟩))
  · go_ret2
    have hq : (!S2.toList == S.toList) = true := by assumption
    rw [q3.out] at hq
    exact pr_of (HKY.out.2 (of_decide_eq_false (by simpa using hq))) (drew_trans ((hb1.trans (hb2.mono hb1.size)).trans (hb3.mono (hb1.trans (hb2.mono hb1.size)).size)))
  · go_ret2
    have hq : (!S2.toList == S.toList) = false := by assumption
    rw [q3.out] at hq
    exact pr_of (HKY.out.1 (of_decide_eq_true (by simpa using hq))) (drew_trans ((hb1.trans (hb2.mono hb1.size)).trans (hb3.mono (hb1.trans (hb2.mono hb1.size)).size)))
end Go.Proofs.YtplhlpdcdemopaaDoor
