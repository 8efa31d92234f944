/- Texts, numbers and bytes: what nat and the document answer, side by side. Conditions: the arguments can be read; the table of powers is laid. -/
import Derived.Test.YtdpheomokeikbaaDoorRt
import Derived.Test.YtdpheomokeikbaaDoorBk
namespace Go.Proofs.YtdpheomokeikbaaDoor
open Go.RowKit Go.NT Go.Lib

/-- A number read from a text, and an error's number. -/
def PX (w w' : World) (e : Ending) (m : Option Int) (err : Int) : Prop :=
  ∃ (b : Bool) (A : Option Addr) (n c : Nat) (rs : List Int), e = .returned (.tuple #[.agg #[.bool b, .slice A n c], .int .i64 err]) ∧ NV w' A n c rs ∧ Hid (mean b rs = m) ∧ Hid (Norm rs) ∧ Hid (b = true → rs = []) ∧ Below w.heap.size w w'
theorem PX.zero {w w' : World} (err : Int) (h : Below w.heap.size w w') : PX w w' (.returned (.tuple #[.agg #[.bool false, .slice none 0 0], .int .i64 err])) (some 0) err :=
  ⟨false, none, 0, 0, [], rfl, NV.nil _, Lib.hid rfl, Lib.hid Norm.nil, Lib.hid (fun _ => rfl), h⟩
theorem PX.inf {w w' : World} (err : Int) (h : Below w.heap.size w w') : PX w w' (.returned (.tuple #[.agg #[.bool true, .slice none 0 0], .int .i64 err])) none err :=
  ⟨true, none, 0, 0, [], rfl, NV.nil _, Lib.hid rfl, Lib.hid Norm.nil, Lib.hid (fun _ => rfl), h⟩
theorem first_bad (S : ByteArray) : ∀ n, n ≤ S.size → (∀ k (h : k < S.size), k < n → dig (S[k]'h)) ∨ ∃ (J : Nat) (hJ : J < S.size), ¬ dig (S[J]'hJ) ∧ ∀ k (h : k < S.size), k < J → dig (S[k]'h) := by
  intro n
  induction n with
  | zero => intro _; exact .inl (fun k h hk => absurd hk (by omega))
  | succ n ih =>
    intro hn
    rcases ih (by omega) with h | h
    · by_cases hd : dig (S[n]'(by omega))
      · exact .inl (fun k h1 hk => by
          by_cases e : k = n
          · subst e; exact hd
          · exact h k h1 (by omega))
      · exact .inr ⟨n, by omega, hd, fun k h1 hk => h k h1 hk⟩
    · exact .inr h
theorem parse_both (S : ByteArray) (h2 : S.size ≤ 9223372036854775807) : ∃ (m : Option Int) (err : Int),
    (∀ w, Tab w → Calls Tryd.prog 25 #[.string S] w fun e w' => PX w w' e m err) ∧ (∀ w, Tab w → Calls Tryd.prog 27 #[.string S] w fun e w' => PX w w' e m err) := by
  by_cases h7 : 700 < S.size
  · exact ⟨some 0, 5, fun w _ => (parse_big S w h7 h2).mono fun e w' ⟨he, hb⟩ => by subst he; exact PX.zero 5 hb, fun w _ => (rparse_big S w h7 h2).mono fun e w' ⟨he, hb⟩ => by subst he; exact PX.zero 5 hb⟩
  by_cases hi : (S.toList == [105, 110, 102]) = true
  · exact ⟨none, 0, fun w _ => (parse_inf S w h7 hi).mono fun e w' ⟨he, hb⟩ => by subst he; exact PX.inf 0 hb, fun w _ => (rparse_inf S w h7 hi).mono fun e w' ⟨he, hb⟩ => by subst he; exact PX.inf 0 hb⟩
  have hi : (S.toList == [105, 110, 102]) = false := by simpa using hi
  rcases first_bad S S.size (Nat.le_refl _) with hd | ⟨J, hJ, hbad, hd⟩
  · have hdl : ∀ d ∈ S.data.toList, dig d := by
      intro d hd'
      obtain ⟨k, hk, rfl⟩ := List.getElem_of_mem hd'
      have hk' : k < S.size := by simpa using hk
      exact hd k hk' hk'
    cases ht : ((bs (decI (dval S.data.toList))).toList == S.toList) with
    | true =>
      exact ⟨some (dval S.data.toList), 0, fun w hT => (parse_dig S w hT h7 hi hdl true _ (Lib.hid rfl) ht).mono fun e w' ⟨b, A, n, c, rs, he, hv, hm, hr, hb', _, hb⟩ => ⟨b, A, n, c, rs, he, hv, hm, hr, hb', hb⟩,
        fun w hT => (rparse_dig rtext_any S w hT h7 hi hdl true _ (Lib.hid rfl) ht).mono fun e w' ⟨b, A, n, c, rs, he, hv, hm, hr, hb', _, hb⟩ => ⟨b, A, n, c, rs, he, hv, hm, hr, hb', hb⟩⟩
    | false =>
      exact ⟨some 0, 16, fun w hT => (parse_dig S w hT h7 hi hdl false _ (Lib.hid rfl) ht).mono fun e w' ⟨he, hb⟩ => by subst he; exact PX.zero 16 hb,
        fun w hT => (rparse_dig rtext_any S w hT h7 hi hdl false _ (Lib.hid rfl) ht).mono fun e w' ⟨he, hb⟩ => by subst he; exact PX.zero 16 hb⟩
  · have hb' : ((S[J]'hJ).toNat : Int) < 48 ∨ (57 : Int) < ((S[J]'hJ).toNat : Int) := by
      unfold dig at hbad
      omega
    exact ⟨some 0, 16, fun w hT => (parse_bad S w hT h7 hi J hJ hb' hd).mono fun e w' ⟨he, hb⟩ => by subst he; exact PX.zero 16 hb,
      fun w hT => (rparse_bad S w hT h7 hi J hJ hb' hd).mono fun e w' ⟨he, hb⟩ => by subst he; exact PX.zero 16 hb⟩
/-- A number's bytes, and an error's number. -/
def BX (w w' : World) (e : Ending) (l : List Int) (err : Int) : Prop :=
  ∃ (A : Option Addr) (c : Nat), e = .returned (.tuple #[.slice A l.length c, .int .i64 err]) ∧ Reads w' w'.heap.size 1 A l.length (l.map (Value.int .u8)) ∧ Below w.heap.size w w'
theorem BX.nil {w w' : World} (err : Int) (h : Below w.heap.size w w') : BX w w' (.returned (.tuple #[.slice none 0 0, .int .i64 err])) [] err := ⟨none, 0, rfl, Reads.none_, h⟩
theorem byteL_len {n : Nat} {xs : List Int} (h : xs.length = n) : (byteL n xs).length = 1 + 4 * n := by
  unfold byteL
  rw [List.length_cons, flat_len, h]; omega
end Go.Proofs.YtdpheomokeikbaaDoor
