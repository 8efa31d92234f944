/- The walk of the law NatBack, whatever the number and the bytes. Conditions: the digits and the bytes can be read; the table of powers is laid. -/
import Derived.Test.YtdpheomokeikbaaDoorBk
namespace Go.Proofs.YtdpheomokeikbaaDoor
open Go.RowKit Go.NT Go.Lib

theorem cons0 (l : List UInt8) : (⟨#[48]⟩ : ByteArray) ++ bs l = bs (48 :: l) := by
  apply ByteArray.ext
  simp [bs]
theorem bs_size (l : List UInt8) : (bs l).size = l.length := rfl
theorem dec_len {v : Int} (h1 : v < 4294967296 ^ 64) : (decI v).length ≤ 699 := by
  unfold decI
  rw [decDigits_length]
  refine nDigits_le (by omega) ?_
  have h2 : v < ((4294967296 ^ 64 : Nat) : Int) := by rw [Int.natCast_pow]; exact h1
  have h3 : (4294967296 ^ 64 : Nat) < 10 ^ 699 := of_decide_eq_true (by kernel_rfl)
  have h4 : 0 < (4294967296 ^ 64 : Nat) := Nat.pow_pos (by omega)
  generalize (4294967296 ^ 64 : Nat) = M at h2 h3 h4
  refine Nat.lt_trans ?_ h3
  omega
theorem inf_no2 {S : ByteArray} (h : ∀ d ∈ S.data.toList, dig d) : (S.toList == [105, 110, 102]) = false := by
  rw [ByteArray.toList_eq]
  simp only [beq_eq_false_iff_ne, ne_eq]
  intro e
  have := h 105 (by rw [e]; simp)
  exact absurd this.2 (by decide)
theorem natBack_law (w : World) (ht : Tab w) (b : Bool) (A : Option Addr) (n c : Nat) (xs : List Int) (hx : NV w A n c xs) (Ab : Option Addr) (hs : List Int) (cb : Nat) (rb : Reads w w.heap.size 1 Ab hs.length (hs.map (Value.int .u8))) (hl : hs.length ≤ maxLen) :
    Calls Tryd.prog 9 #[.agg #[.bool b, .slice A n c], .slice Ab hs.length cb] w fun e w' => e = .returned (.bool true) ∧ Below w.heap.size w w' := by
  by_cases hbig : n ≤ 64 ∧ hs.length ≤ 300
  · obtain ⟨hn, hL⟩ := hbig
    cases b
    · have hv0 : 0 ≤ val xs := val_nonneg hx.2.2.1
      have hv1 : val xs < 4294967296 ^ 64 := by
        have h1 := val_lt hx.2.2.1
        have h2 : NT.W ^ xs.length ≤ NT.W ^ 64 := pow_mono (by rw [hx.len]; exact hn)
        exact Int.lt_of_lt_of_le h1 h2
      obtain ⟨v, hv⟩ : ∃ v, v = val xs := ⟨_, rfl⟩
      rw [← hv] at hv0 hv1
      have hlen := dec_len hv1
      have hdg : ∀ d ∈ decI v, dig d := dec_dig v.toNat
      have hdv : dval (decI v) = v := by
        have := dval_dec v.toNat
        rw [show decI v = decDigits v.toNat from rfl, this]
        omega
      have hdg2 : ∀ d ∈ (48 : UInt8) :: decI v, dig d := by
        intro d hd
        rcases List.mem_cons.1 hd with rfl | hd
        · unfold dig; decide
        · exact hdg d hd
      have hdv2 : dval (48 :: decI v) = v := by rw [dval_cons0, hdv]
      have hmv : Hid (mean false xs = some v) := Lib.hid (by rw [hv]; rfl)
      have tS : ((bs (decI (dval (bs (decI v)).data.toList))).toList == (bs (decI v)).toList) = true := by
        rw [ByteArray.toList_eq, ByteArray.toList_eq]
        show (decI (dval (decI v)) == decI v) = true
        rw [hdv]
        simp
      have tS2 : ((bs (decI (dval (bs (48 :: decI v)).data.toList))).toList == (bs (48 :: decI v)).toList) = false := by
        rw [ByteArray.toList_eq, ByteArray.toList_eq]
        show (decI (dval (48 :: decI v)) == 48 :: decI v) = false
        rw [hdv2]
        simp only [beq_eq_false_iff_ne, ne_eq]
        intro e
        have := congrArg List.length e
        simp at this
      have s1 : ¬ 700 < (bs (decI v)).size := by rw [bs_size]; omega
      have s2 : ¬ 700 < (bs (48 :: decI v)).size := by rw [bs_size, List.length_cons]; omega
      by_cases hM : (if false then ((n : Int) == 0) else (((strip xs).length : Int) == (n : Int))) = true
      · exact back_fok w ht A Ab n c hs.length cb xs hs hx rb hn hL v hmv (bs (decI v)) (bs (48 :: decI v)) _ _ (Lib.hid rfl) (cons0 _) s1 s2 (inf_no2 hdg) (inf_no2 hdg2) (Lib.hid hdg) (Lib.hid hdg2) (Lib.hid rfl) (Lib.hid rfl) tS tS2 (Lib.hid hdv) (Lib.hid hM)
      · exact back_fnot w ht A Ab n c hs.length cb xs hs hx rb hn hL v hmv (bs (decI v)) (bs (48 :: decI v)) _ _ (Lib.hid rfl) (cons0 _) s1 s2 (inf_no2 hdg) (inf_no2 hdg2) (Lib.hid hdg) (Lib.hid hdg2) (Lib.hid rfl) (Lib.hid rfl) tS tS2 (Lib.hid hdv) (Lib.hid (by simpa using hM))
    · have i1 : ((bs [105, 110, 102]).toList == [105, 110, 102]) = true := by rw [ByteArray.toList_eq]; rfl
      have i2 : ((bs [48, 105, 110, 102]).toList == [105, 110, 102]) = false := by rw [ByteArray.toList_eq]; rfl
      have i3 : ∀ k (h : k < (bs [48, 105, 110, 102]).size), k < 1 → dig ((bs [48, 105, 110, 102])[k]'h) := by
        intro k h hk
        obtain rfl : k = 0 := by omega
        show dig 48
        unfold dig
        decide
      by_cases hM : ((n : Int) == 0) = true
      · exact back_iok w ht A Ab n c hs.length cb xs hs hx rb hn hL (Lib.hid rfl) (bs [105, 110, 102]) (bs [48, 105, 110, 102]) (Lib.hid rfl) (cons0 _) (by decide) (by decide) i1 i2 1 (by decide) (Or.inr (by decide)) i3 (Lib.hid hM)
      · exact back_inot w ht A Ab n c hs.length cb xs hs hx rb hn hL (Lib.hid rfl) (bs [105, 110, 102]) (bs [48, 105, 110, 102]) (Lib.hid rfl) (cons0 _) (by decide) (by decide) i1 i2 1 (by decide) (Or.inr (by decide)) i3 (Lib.hid (by simpa using hM))
  · exact back_big w ht b A Ab n c hs.length cb hx.2.2.2 (by unfold maxLen at hl; omega) hbig
end Go.Proofs.YtdpheomokeikbaaDoor
