/- Reading a double: the document's; the first and the last of a list. Conditions: a slice can be read. -/
import Derived.Test.YtplhlpdcdemopaaDoorFq
namespace Go.Proofs.YtplhlpdcdemopaaDoor
open Go.RowKit Go.FT Go.FX Go.Lib

theorem rparse_empty (w : World) : Calls Tryd.prog 18 #[.string ⟨#[]⟩] w fun e w' => PR ⟨#[]⟩ w w' e := by
  have HP : Hid (pv (⟨#[]⟩ : ByteArray).data.toList = (0, 16)) := Lib.hid (none_nocut (a := []) (c := []) (by decide) (by decide) (by decide))
  go_enter Tryd.func18, Tryd.ntmps18
  go_wp2
  go_loopw [7] (fun i wr => wr = w ∧ i = .int .i64 0) (fun _ _ => 0)
  case atStart => exact ⟨rfl, rfl⟩
  case round =>
    obtain ⟨rfl, rfl⟩ := hrel
    go_wp2
    go_ret2
    exact pr_of HP.out (Below.refl _ _)
theorem rparse_any (S : ByteArray) (hS : S.size ≤ 4000000000) (w : World) : Calls Tryd.prog 18 #[.string S] w fun e w' => PR S w w' e := by
  by_cases h0 : S.size = 0
  · obtain rfl : S = ⟨#[]⟩ := by
      apply ByteArray.ext
      exact Array.eq_empty_of_size_eq_zero h0
    exact rparse_empty w
  · have h0' : 0 < S.size := by omega
    cases hg : sgn S.data.toList
    · by_cases h1 : rest S.data.toList = sNan
      · exact rparseNanP S hS h0' hg h1 w
      · by_cases h2 : rest S.data.toList = sInf
        · exact rparseInfP S hS h0' hg h2 w
        · exact rparseNumP S hS h0' hg h1 h2 w
    · by_cases h1 : rest S.data.toList = sNan
      · exact rparseNanN S hS h0' hg h1 w
      · by_cases h2 : rest S.data.toList = sInf
        · exact rparseInfN S hS h0' hg h2 w
        · exact rparseNumN S hS h0' hg h1 h2 w
end Go.Proofs.YtplhlpdcdemopaaDoor
