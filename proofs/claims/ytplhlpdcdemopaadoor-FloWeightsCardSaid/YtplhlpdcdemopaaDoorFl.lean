/- The walk of reading a double: what is called. Conditions: the library's tables are laid. -/
import Derived.Test.YtplhlpdcdemopaaDoorFk
namespace Go.Proofs.YtplhlpdcdemopaaDoor
open Go.RowKit Go.FT Go.FX Go.Lib

theorem xor_sgn {x : Nat} (hx : x < SGN) : x ^^^ 9223372036854775808 = sg true x := by
  have h1 : SGN + x = SGN ||| x := by
    have := Nat.two_pow_add_eq_or_of_lt (i := 63) (b := x) (by rw [show (2 : Nat) ^ 63 = SGN by decide]; exact hx) 1
    rw [show (2 : Nat) ^ 63 * 1 = SGN by decide] at this
    exact this
  unfold sg
  rw [if_pos rfl, h1]
  apply Nat.eq_of_testBit_eq
  intro i
  rw [Nat.testBit_xor, Nat.testBit_or, show (9223372036854775808 : Nat) = 2 ^ 63 by decide, show SGN = 2 ^ 63 by decide, Nat.testBit_two_pow]
  by_cases g : 63 = i
  · subst g
    rw [top_bit (Nat.lt_trans hx (by decide)), show ng x = false from decide_eq_false (by omega)]; rfl
  · rw [decide_eq_false g]; simp
theorem sg_lt {n : Bool} {x : Nat} (hx : x < SGN) : sg n x < W64 := by
  unfold sg; split
  · unfold SGN at *; unfold W64; omega
  · exact Nat.lt_trans hx (by decide)
/-- A double's text, as it comes back. -/
def TR (w w' : World) (e : Ending) (l : List UInt8) : Prop := ∃ S : ByteArray, e = .returned (.string S) ∧ Hid (S.data.toList = l) ∧ Below w.heap.size w w'
theorem text_tr (x : Nat) (hx : x < W64) (w : World) (hl : Lay w) : Calls Tryd.prog 14 #[.float .f64 x] w fun e w' => TR w w' e (T x) :=
  (text_any x hx w hl).mono fun _ _ ⟨h, hb⟩ => ⟨⟨(T x).toArray⟩, h, Lib.hid (by simp), hb⟩
theorem rtext_tr (x : Nat) (hx : x < W64) (w : World) : Calls Tryd.prog 31 #[.float .f64 x] w fun e w' => TR w w' e (T x) :=
  (rtext_any x hx w).mono fun _ _ ⟨h, hb⟩ => ⟨⟨(T x).toArray⟩, h, Lib.hid (by simp), hb⟩
theorem cutp_any (S : ByteArray) (w : World) : Calls Tryd.prog 44 #[.string S, .string ⟨#[45]⟩] w fun e w' => ∃ RS : ByteArray, e = .returned (.tuple #[.string RS, .bool (neg S.data.toList)]) ∧ Hid (RS.data.toList = rest S.data.toList) ∧ w = w' :=
  (Tryd.strings_CutPrefix S ⟨#[45]⟩ w).mono fun _ _ ⟨h, hw⟩ => ⟨_, h, Lib.hid (by simp [rest]), hw.symm⟩
theorem trim_len (l : List UInt8) : (rest l).length ≤ l.length := by
  unfold rest trimPrefix; split <;> simp
theorem cutb_any (S : ByteArray) (hs : S.size < 4294967281) {a c : List UInt8} {ok : Bool} (hc : cut S.data.toList [98] = (a, c, ok)) (w : World) (hl : Lay w) :
    Calls Tryd.prog 45 #[.string S, .string ⟨#[98]⟩] w fun e w' => ∃ (SA SC : ByteArray) (n : Nat), e = .returned (.tuple #[.string SA, .string SC, .bool ok]) ∧ Hid (SA.data.toList = a) ∧ Hid (SC.data.toList = c) ∧ w' = w.drewN n := by
  obtain ⟨m, hm⟩ := hl.big
  refine (Tryd.strings_Cut S ⟨#[98]⟩ m w hs hm).mono fun e w' ⟨h, n, hw⟩ => ?_
  rw [show (⟨#[98]⟩ : ByteArray).data.toList = [98] from rfl, hc] at h
  exact ⟨_, _, n, h, Lib.hid (by simp), Lib.hid (by simp), hw⟩
theorem cut_len {s a c : List UInt8} {ok : Bool} (h : cut s [98] = (a, c, ok)) : a.length ≤ s.length ∧ c.length ≤ s.length := by
  unfold cut at h
  split at h
  · injection h with h1 h2; injection h2 with h2 h3
    subst h1 h2
    simp
    omega
  · injection h with h1 h2; injection h2 with h2 h3
    subst h1 h2
    simp
theorem below_bytes {w w' : World} {t : TypeId} {s : ByteArray} (h : w' = w ∨ w' = Lib.bytesWorld w t s) : Below w.heap.size w w' := by
  rcases h with rfl | rfl
  · exact Below.refl _ _
  · exact Lib.bytesWorld_below _ _ _
theorem pu_ok (s : ByteArray) (hs : s.size ≤ 4294967281) {l : List UInt8} (hl : s.data.toList = l) {u : Nat} (h : parseUintB 64 l = .ok u) (w : World) :
    Calls Tryd.prog 47 #[.string s, .int .i64 10, .int .i64 64] w fun e w' => e = .returned (.tuple #[.int .u64 u, .nilIface]) ∧ Below w.heap.size w w' := by
  subst hl
  exact (Tryd.strconv_ParseUint_10_at64_ok s (by omega) u h w).mono fun e w' ⟨h1, h2⟩ => ⟨h1, below_bytes h2⟩
theorem pu_err (s : ByteArray) (hs : s.size ≤ 4294967281) {l : List UInt8} (hl : s.data.toList = l) (h : ∀ n, parseUintB 64 l ≠ .ok n) (w : World) (hw : Lay w) :
    Calls Tryd.prog 47 #[.string s, .int .i64 10, .int .i64 64] w fun e w' => ∃ (u : Int) (N : Nat), e = .returned (.tuple #[.int .u64 u, .iface 111 (.pointer (some ⟨N, 0, none⟩))]) ∧ Below w.heap.size w w' := by
  subst hl
  rcases hp : parseUintB 64 s.data.toList with n | _ | _
  · exact absurd hp (h n)
  · obtain ⟨tp, p, hv⟩ := hw.syn
    exact (Any.strconv_ParseUint_10_at64_syntax_var Tryd.laysPu14 s (by omega) hp tp p w hv).mono fun e w' ⟨N, h1, _, _, h2⟩ => ⟨_, N, h1, h2⟩
  · obtain ⟨tp, p, hv⟩ := hw.ran
    exact (Tryd.strconv_ParseUint_10_at64_range_var s (by omega) hp tp p w hv).mono fun e w' ⟨N, h1, _, _, h2⟩ => ⟨_, N, h1, h2⟩
theorem at_ok (s : ByteArray) (hs : s.size ≤ 4294967281) {l : List UInt8} (hl : s.data.toList = l) {v : Int} (h : atoiAll l = .ok v) (w : World) :
    Calls Tryd.prog 48 #[.string s] w fun e w' => e = .returned (.tuple #[.int .i64 v, .nilIface]) ∧ Below w.heap.size w w' := by
  subst hl
  exact (Tryd.strconv_Atoi_ok s (by omega) v h w).mono fun e w' ⟨h1, h2⟩ => ⟨h1, by
    rcases h2 with h2 | ⟨t, h2⟩
    · exact below_bytes (t := 5) (s := s) (Or.inl h2)
    · exact below_bytes (Or.inr h2)⟩
theorem at_err (s : ByteArray) (hs : s.size ≤ 4294967281) {l : List UInt8} (hl : s.data.toList = l) (h : ∀ n, atoiAll l ≠ .ok n) (w : World) (hw : Lay w) :
    Calls Tryd.prog 48 #[.string s] w fun e w' => ∃ (u : Int) (N : Nat), e = .returned (.tuple #[.int .i64 u, .iface 111 (.pointer (some ⟨N, 0, none⟩))]) ∧ Below w.heap.size w w' := by
  subst hl
  rcases hp : atoiAll s.data.toList with n | _ | _
  · exact absurd hp (h n)
  · obtain ⟨tp, p, hv⟩ := hw.syn
    exact (Any.strconv_Atoi_syntax_var Tryd.laysC172 s (by omega) hp tp p w hv).mono fun e w' ⟨N, h1, _, _, h2⟩ => ⟨_, N, h1, h2⟩
  · obtain ⟨tp, p, hv⟩ := hw.ran
    exact (Tryd.strconv_Atoi_range_var s (by omega) hp tp p w hv).mono fun e w' ⟨N, h1, _, _, h2⟩ => ⟨_, N, h1, h2⟩
theorem of_i {z : Int} (x : Nat) (hz : z = (x : Nat)) (w : World) (hx : x < W64) : Calls Tryd.prog 12 #[.int .u64 z] w fun e w' => e = .returned (.float .f64 (can x)) ∧ w = w' := by
  subst hz; exact of_any x w hx
end Go.Proofs.YtplhlpdcdemopaaDoor
