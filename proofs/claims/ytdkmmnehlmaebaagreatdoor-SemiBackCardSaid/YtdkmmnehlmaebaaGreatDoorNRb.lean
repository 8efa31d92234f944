
/- The document's own OfNat. Conditions: the digits can be read. -/
import Derived.Test.YtdkmmnehlmaebaaGreatDoorNRa
namespace Go.Proofs.YtdkmmnehlmaebaaGreatDoor.Na
open Go.RowKit Go.NT Go.Lib

set_option maxRecDepth 100000 in
set_option maxHeartbeats 1000000 in
theorem ofnat_any (x : Int) (w : World) (h0 : 0 ≤ x) (h1 : x < 18446744073709551616) :
    Calls Tryz.prog 36 #[.int .u64 x] w fun e w' => ∃ (A : Option Addr) (n c : Nat), e = .returned (.agg #[.bool false, .slice A n c]) ∧ NV w' A n c (ofD x) ∧ Below w.heap.size w w' := by
  have h1' : x ≤ 18446744073709551615 := by omega
  have e1 : x / 4294967296 < 4294967296 := by omega
  have e2 : 0 ≤ x / 4294967296 := by omega
  have HU := of_u32 h0 h1
  clear h1
  have hr2 := fun o => reads2' w o (x % 4294967296) (x / 4294967296) 67
  have hq := hr2 (.cells #[.bool false, .slice none 0 0] 24)
  have hnv : NV ((w.alloc (.cells #[.bool false, .slice none 0 0] 24)).alloc (.cells #[.int .u32 (x % 4294967296), .int .u32 (x / 4294967296)] 67)) (some ⟨w.heap.size + 1, 0, none⟩) 2 2 [x % 4294967296, x / 4294967296] :=
    ⟨hq.more (by simp), Nat.le_refl _, HU, by omega⟩
  clear hr2 hq
  go_enter Tryz.func36, Tryz.ntmps36
  go_wp2_with (go_at_call 68; (with_reducible refine (clean_any false (some ⟨w.heap.size + 1, 0, none⟩) 2 2 [x % 4294967296, x / 4294967296] _ hnv (by omega)).mono ?_); rintro e w' ⟨A, n, c, rfl, hv, hf, hn, hb⟩; have hR : Res w' w.heap.size false (.slice none 0 0) := Res.go (w := (w.alloc (.cells #[.bool false, .slice none 0 0] 24)).alloc (.cells #[.int .u32 (x % 4294967296), .int .u32 (x / 4294967296)] 67)) ⟨by go_simp, by go_simp, by go_simp, by go_simp, by simp; omega⟩ hb (by simp; omega); have g0 := hR.1; have g1 := hR.2.1; have g2 := hR.2.2.1; have g3 := hR.2.2.2.1)
  have hF : Fresh (w.heap.size + 1) A := hf.out.mono (by simp)
  have hbw : Below w.heap.size w w' := below_step (below_al (below_al (Below.refl _ _) _) _) hb (by simp; omega)
  exact bodyPost_ret (v := .agg #[.bool false, .slice A n c]) (by simp [results, Tryz.results36, go_sem, g0, g1]) rfl
    ⟨A, n, c, rfl, NV.set (NV.set hv hF 0 _) hF 1 _, (hbw.setCell (p := ⟨w.heap.size, 0, none⟩) (Nat.le_refl _) _).setCell (p := ⟨w.heap.size, 1, none⟩) (Nat.le_refl _) _⟩
end Go.Proofs.YtdkmmnehlmaebaaGreatDoor.Na
