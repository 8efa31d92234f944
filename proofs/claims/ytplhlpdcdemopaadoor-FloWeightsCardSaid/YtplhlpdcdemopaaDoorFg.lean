/- The walk of the document's decimal digits. No condition. -/
import Derived.Test.YtplhlpdcdemopaaDoorFf
import Derived.Test.YtplhlpdcdemopaaDoorWh
import Derived.Laws.BytesArg
namespace Go.Proofs.YtplhlpdcdemopaaDoor
open Go.RowKit Go.FT Go.FX Go.Lib

abbrev bv (b : UInt8) : Value := .int .u8 (b.toNat : Int)
theorem infoU8 : (Tryd.prog.info? 5).map (fun i => (i.zero, i.size, i.bytes)) = some (some (.int .u8 0), 1, 1) := by kernel_rfl
def lenV : Value → Nat
  | .slice _ m _ => m
  | _ => 0
theorem conv_u8 {w : World} {A : Option Addr} {c n : Nat} {l : List UInt8} {B : Nat} (hr : Reads w B 1 A n (l.map bv)) :
    (convert 100 9 (.slice A n c)).run Tryd.prog w = .ok (.string ⟨l.toArray⟩) w := by
  have hl : l.length = n := by have := hr.1; simpa using this
  subst hl
  cases A with
  | none =>
    have h0 : l = [] := by
      rcases Nat.eq_zero_or_pos l.length with h | h
      · exact List.eq_nil_of_length_eq_zero h
      · obtain ⟨ad, e, _⟩ := hr.2 h; cases e
    subst h0
    exact run_convert_bytes_nil w 100 5 Tryd.underlying100 Tryd.underlying5 _ _ 9 Tryd.underlying9
  | some a =>
    exact run_convert_bytes_back (P := Tryd.prog) w 100 9 5 a c l Tryd.underlying100 Tryd.underlying5 Tryd.underlying9 (fun j hj => by
      obtain ⟨ad, e, _, hc⟩ := hr.2 (by omega)
      injection e with e
      subst e
      exact hc j _ (by rw [List.getElem?_map, List.getElem?_eq_getElem hj]; rfl))

/-- The digits of u0 that are written, and what is left. -/
def DecInv (u0 u : Nat) (D : List UInt8) : Prop := ((u ≠ 0 ∨ D = []) ∧ decDigits u0 = decDigits u ++ D) ∨ (u = 0 ∧ D ≠ [] ∧ decDigits u0 = D)
theorem DecInv.start (u : Nat) : DecInv u u [] := Or.inl ⟨Or.inr rfl, by simp⟩
theorem DecInv.step {u0 u : Nat} {D : List UInt8} (h : DecInv u0 u D) (hc : u ≠ 0 ∨ D = []) : DecInv u0 (u / 10) (UInt8.ofNat (48 + u % 10) :: D) := by
  rcases h with ⟨_, h⟩ | ⟨h1, h2, _⟩
  · by_cases hu : u < 10
    · right
      refine ⟨by omega, by simp, ?_⟩
      rw [h, decDigits, dif_pos hu, show u % 10 = u by omega]; rfl
    · left
      refine ⟨Or.inl (by omega), ?_⟩
      rw [h, decDigits, dif_neg hu, List.append_assoc]; rfl
  · rcases hc with hc | hc
    · exact absurd h1 hc
    · exact absurd hc h2
theorem DecInv.done {u0 : Nat} {D : List UInt8} (h : DecInv u0 0 D) (hD : D ≠ []) : decDigits u0 = D := by
  rcases h with ⟨h1 | h1, _⟩ | ⟨_, _, h⟩
  · exact absurd rfl h1
  · exact absurd h1 hD
  · exact h
theorem DecInv.len {u0 u : Nat} {D : List UInt8} (h : DecInv u0 u D) (hu : u0 < W64) : D.length ≤ 20 := by
  have hl := dec_len (u := u0) (k := 20) (by omega) (Nat.lt_of_lt_of_le hu (by decide))
  rcases h with ⟨_, h⟩ | ⟨_, _, h⟩
  · rw [h, List.length_append] at hl; omega
  · rw [h] at hl; exact hl
theorem digit_nat (k : Nat) : ((UInt8.ofNat (48 + k % 10)).toNat : Int) = 48 + (k : Int) % 10 := by
  rw [UInt8.toNat_ofNat']; omega
set_option maxRecDepth 100000 in
set_option maxHeartbeats 1000000 in
theorem decimal_pos (n : Int) (h0 : 0 ≤ n) (h1 : n ≤ 9223372036854775807) (w : World) :
    Calls Tryd.prog 61 #[.int .i64 n] w fun e w' => SR w w' e (itoa n) 21 := by
  obtain ⟨u0, rfl⟩ := Int.eq_ofNat_of_zero_le h0
  have hu0 : u0 < W64 := by unfold W64; omega
  have HI : Hid (itoa (u0 : Int) = decDigits u0) := Lib.hid (by unfold itoa; rw [if_neg (by omega)]; rfl)
  obtain ⟨i0, hi, hz0, hz1, hz2⟩ := info_parts infoU8
  go_enter Tryd.func61, Tryd.ntmps61
  go_wp2
  go_loopw [3, 5] (fun u b wr => ∃ (k n c : Nat) (A : Option Addr) (D : List UInt8), u = .int .u64 k ∧ b = .slice A n c ∧ Hid (n = D.length) ∧ k ≤ 9223372036854775807 ∧ wr.ownsRow w.heap.size 5 1 (.slice A n c) n (D.map bv) ∧ Below w.heap.size w wr ∧ Hid (DecInv u0 k D)) (fun u b _ => (RowKit.intOf u).toNat * 2 + (if lenV b = 0 then 1 else 0))
  case atStart => exact ⟨u0, 0, 0, none, [], rfl, rfl, Lib.hid rfl, by omega, World.ownsRow_nil _ _ _ _, Below.refl _ _, Lib.hid (DecInv.start u0)⟩
  case round =>
    obtain ⟨k, n, c, A, D, rfl, rfl, hn, hk, hown, hb, hD⟩ := hrel
    have hdl := hD.out.len hu0
    have hn20 : n ≤ 20 := by rw [hn.out]; exact hdl
    have hN0 : Hid (n = 0 → D = []) := Lib.hid (fun e => List.eq_nil_of_length_eq_zero (by rw [← hn.out]; exact e))
    clear hdl
    have HDG := Lib.hid (digit_nat k)
    have hown0 : (wr.alloc (Obj.cells #[.int .u8 (48 + (k : Int) % 10)] 5)).ownsRow w.heap.size 5 1 (.slice (some ⟨wr.heap.size, 0, none⟩) 1 1) 1 ([UInt8.ofNat (48 + k % 10)].map bv) := by
      rw [← digit_nat k]
      exact World.ownsRow_lit wr #[bv (UInt8.ofNat (48 + k % 10))] 1 hb.size (by unfold maxLen; omega) rfl
    have hrd := (Reads.of_own hown).alloc (Nat.le_refl _) (Obj.cells #[.int .u8 (48 + (k : Int) % 10)] 5)
    by_cases hk0 : 0 < k
    · have hs := Lib.hid (hD.out.step (Or.inl (by omega)))
      go_wp2_with (at_builtin; refine wpList_append_reads _ bv (fun _ => rfl) 100 5 i0 _ 1 Tryd.underlying100 hi hz0 hz1 hz2 rfl rfl (.tmp 23) (.tmp 24) rfl w.heap.size _ 1 [UInt8.ofNat (48 + k % 10)] rfl hown0 _ A n c D rfl hrd (by unfold maxLen; omega) (by omega) (by simp; exact Nat.le_succ_of_le hb.size) ?_; intro A1 n1 c1 w1 hn1 hc1 hown1 hb1)
      refine ⟨⟨k / 10, n1, c1, A1, UInt8.ofNat (48 + k % 10) :: D, congrArg (Value.int .u64) (by omega), rfl, Lib.hid (by rw [hn1.out, hn.out, List.length_cons]; omega), by omega, hown1, (hb.alloc hb.size _).trans hb1, hs⟩, ?_⟩
      have := hn1.out
      show (RowKit.intOf (.int .u64 ((k : Int) / 10))).toNat * 2 + (if n1 = 0 then 1 else 0) < _
      rw [if_neg (by omega)]
      simp [RowKit.intOf]
      omega
    · obtain rfl : k = 0 := by omega
      by_cases hn0 : n = 0
      · subst hn0
        have hs := Lib.hid (hD.out.step (Or.inr (hN0.out rfl)))
        go_wp2_with (at_builtin; refine wpList_append_reads _ bv (fun _ => rfl) 100 5 i0 _ 1 Tryd.underlying100 hi hz0 hz1 hz2 rfl rfl (.tmp 23) (.tmp 24) rfl w.heap.size _ 1 [UInt8.ofNat (48 + 0 % 10)] rfl hown0 _ A 0 c D rfl hrd (by unfold maxLen; omega) (by omega) (by simp; exact Nat.le_succ_of_le hb.size) ?_; intro A1 n1 c1 w1 hn1 hc1 hown1 hb1)
        refine ⟨⟨0, n1, c1, A1, UInt8.ofNat (48 + 0 % 10) :: D, rfl, rfl, Lib.hid (by rw [hn1.out, hn.out, List.length_cons]; omega), by omega, hown1, (hb.alloc hb.size _).trans hb1, hs⟩, ?_⟩
        have := hn1.out
        show (RowKit.intOf (.int .u64 0)).toNat * 2 + (if n1 = 0 then 1 else 0) < _
        rw [if_neg (by omega)]
        simp [RowKit.intOf, lenV]
      · have hcv := conv_u8 (c := c) (Reads.of_own hown)
        have hDl : D.length ≤ 20 := by rw [← hn.out]; exact hn20
        have hd := Lib.hid (hD.out.done (fun e => hn0 (by rw [hn.out, e]; rfl)))
        have hn00 : ((n : Int) == 0) = false := by simpa using hn0
        go_wp2
        go_ret
        exact ⟨_, rfl, Lib.hid (by rw [HI.out, hd.out]; simp), by rw [ByteArray.size_append]; show 0 + D.toArray.size ≤ 21; rw [List.size_toArray]; omega, hb⟩
set_option maxRecDepth 100000 in
set_option maxHeartbeats 1000000 in
theorem decimal_neg (n : Int) (h0 : n < 0) (h1 : -9223372036854775808 ≤ n) (w : World) :
    Calls Tryd.prog 61 #[.int .i64 n] w fun e w' => SR w w' e (itoa n) 21 := by
  obtain ⟨u0, hu⟩ : ∃ u0 : Nat, n = -(u0 : Int) := ⟨n.natAbs, by omega⟩
  have hu0 : u0 < W64 := by unfold W64; omega
  have HI : Hid (itoa n = 45 :: decDigits u0) := Lib.hid (by unfold itoa; rw [if_pos h0, hu, Int.natAbs_neg]; rfl)
  have HU := Lib.hid hu
  have hn0 : decide (n < 0) = true := decide_eq_true h0
  clear hu
  obtain ⟨i0, hi, hz0, hz1, hz2⟩ := info_parts infoU8
  go_enter Tryd.func61, Tryd.ntmps61
  go_wp2
  go_loopw [3, 5] (fun u b wr => ∃ (k n c : Nat) (A : Option Addr) (D : List UInt8), u = .int .u64 k ∧ b = .slice A n c ∧ Hid (n = D.length) ∧ k ≤ 9223372036854775808 ∧ wr.ownsRow w.heap.size 5 1 (.slice A n c) n (D.map bv) ∧ Below w.heap.size w wr ∧ Hid (DecInv u0 k D)) (fun u b _ => (RowKit.intOf u).toNat * 2 + (if lenV b = 0 then 1 else 0))
  case atStart => exact ⟨u0, 0, 0, none, [], congrArg (Value.int .u64) (by have := HU.out; simp [IntKind.wrap, IntKind.bits, IntKind.signed]; omega), rfl, Lib.hid rfl, by have := HU.out; omega, World.ownsRow_nil _ _ _ _, Below.refl _ _, Lib.hid (DecInv.start u0)⟩
  case round =>
    obtain ⟨k, n, c, A, D, rfl, rfl, hn, hk, hown, hb, hD⟩ := hrel
    have hdl := hD.out.len hu0
    have hn20 : n ≤ 20 := by rw [hn.out]; exact hdl
    have hN0 : Hid (n = 0 → D = []) := Lib.hid (fun e => List.eq_nil_of_length_eq_zero (by rw [← hn.out]; exact e))
    clear hdl
    have HDG := Lib.hid (digit_nat k)
    have hown0 : (wr.alloc (Obj.cells #[.int .u8 (48 + (k : Int) % 10)] 5)).ownsRow w.heap.size 5 1 (.slice (some ⟨wr.heap.size, 0, none⟩) 1 1) 1 ([UInt8.ofNat (48 + k % 10)].map bv) := by
      rw [← digit_nat k]
      exact World.ownsRow_lit wr #[bv (UInt8.ofNat (48 + k % 10))] 1 hb.size (by unfold maxLen; omega) rfl
    have hrd := (Reads.of_own hown).alloc (Nat.le_refl _) (Obj.cells #[.int .u8 (48 + (k : Int) % 10)] 5)
    by_cases hk0 : 0 < k
    · have hs := Lib.hid (hD.out.step (Or.inl (by omega)))
      go_wp2_with (at_builtin; refine wpList_append_reads _ bv (fun _ => rfl) 100 5 i0 _ 1 Tryd.underlying100 hi hz0 hz1 hz2 rfl rfl (.tmp 23) (.tmp 24) rfl w.heap.size _ 1 [UInt8.ofNat (48 + k % 10)] rfl hown0 _ A n c D rfl hrd (by unfold maxLen; omega) (by omega) (by simp; exact Nat.le_succ_of_le hb.size) ?_; intro A1 n1 c1 w1 hn1 hc1 hown1 hb1)
      refine ⟨⟨k / 10, n1, c1, A1, UInt8.ofNat (48 + k % 10) :: D, congrArg (Value.int .u64) (by omega), rfl, Lib.hid (by rw [hn1.out, hn.out, List.length_cons]; omega), by omega, hown1, (hb.alloc hb.size _).trans hb1, hs⟩, ?_⟩
      have := hn1.out
      show (RowKit.intOf (.int .u64 ((k : Int) / 10))).toNat * 2 + (if n1 = 0 then 1 else 0) < _
      rw [if_neg (by omega)]
      simp [RowKit.intOf]
      omega
    · obtain rfl : k = 0 := by omega
      by_cases hn0 : n = 0
      · subst hn0
        have hs := Lib.hid (hD.out.step (Or.inr (hN0.out rfl)))
        go_wp2_with (at_builtin; refine wpList_append_reads _ bv (fun _ => rfl) 100 5 i0 _ 1 Tryd.underlying100 hi hz0 hz1 hz2 rfl rfl (.tmp 23) (.tmp 24) rfl w.heap.size _ 1 [UInt8.ofNat (48 + 0 % 10)] rfl hown0 _ A 0 c D rfl hrd (by unfold maxLen; omega) (by omega) (by simp; exact Nat.le_succ_of_le hb.size) ?_; intro A1 n1 c1 w1 hn1 hc1 hown1 hb1)
        refine ⟨⟨0, n1, c1, A1, UInt8.ofNat (48 + 0 % 10) :: D, rfl, rfl, Lib.hid (by rw [hn1.out, hn.out, List.length_cons]; omega), by omega, hown1, (hb.alloc hb.size _).trans hb1, hs⟩, ?_⟩
        have := hn1.out
        show (RowKit.intOf (.int .u64 0)).toNat * 2 + (if n1 = 0 then 1 else 0) < _
        rw [if_neg (by omega)]
        simp [RowKit.intOf, lenV]
      · have hcv := conv_u8 (c := c) (Reads.of_own hown)
        have hDl : D.length ≤ 20 := by rw [← hn.out]; exact hn20
        have hd := Lib.hid (hD.out.done (fun e => hn0 (by rw [hn.out, e]; rfl)))
        have hn00 : ((n : Int) == 0) = false := by simpa using hn0
        go_wp2
        go_ret
        exact ⟨_, rfl, Lib.hid (by rw [HI.out, hd.out]; simp), by rw [ByteArray.size_append]; show 1 + D.toArray.size ≤ 21; rw [List.size_toArray]; omega, hb⟩
theorem decimal_any (n : Int) (h0 : -9223372036854775808 ≤ n) (h1 : n ≤ 9223372036854775807) (w : World) :
    Calls Tryd.prog 61 #[.int .i64 n] w fun e w' => SR w w' e (itoa n) 21 := by
  by_cases h : 0 ≤ n
  · exact decimal_pos n h h1 w
  · exact decimal_neg n (by omega) h0 w
end Go.Proofs.YtplhlpdcdemopaaDoor
