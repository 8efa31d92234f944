
/- The walk of dividing by a piece. Conditions: the digits can be read. -/
import Derived.Test.YtdkmmnehlmaebaaGreatDoorNWd
import Derived.Test.YtdkmmnehlmaebaaGreatDoorNTx
import Derived.Lib.EndianBits
namespace Go.Proofs.YtdkmmnehlmaebaaGreatDoor.Na
open Go.RowKit Go.NT

theorem or_shl {r x : Int} (h0 : 0 ≤ r) (h1 : r < 1000000000) (h2 : 0 ≤ x) (h3 : x < 4294967296) : bits .or .u64 (r * 4294967296) x = r * 4294967296 + x :=
  bits_join .u64 64 (by decide) wraps_u64 32 (r * 4294967296) x (by omega) (by omega) (by omega) h2 (by omega) (by omega)
theorem tup2 {a b a' b' : Value} (h : a = a') (k : b = b') : Ending.returned (.tuple #[a, b]) = .returned (.tuple #[a', b']) := by rw [h, k]

set_option maxRecDepth 100000 in
set_option maxHeartbeats 2000000 in
theorem part_any (A : Option Addr) (n c : Nat) (X : List Int) (w : World) (hx : NV w A n c X) (hn : n ≤ 1099511627776) :
    Calls Tryz.prog 81 #[.slice A n c] w fun e w' => ∃ (A' : Option Addr) (q c' : Nat) (Q : List Int) (r : Int), e = .returned (.tuple #[.slice A' q c', .int .u32 r]) ∧ NV w' A' q c' Q ∧ Hid (Norm Q) ∧ Hid (val Q * 1000000000 + r = val X) ∧ 0 ≤ r ∧ r < 1000000000 ∧ q ≤ n ∧ (∀ ad, A' = some ad → 0 < q → w.heap.size ≤ ad.block) ∧ Below w.heap.size w w' := by
  have hl := hx.len
  obtain ⟨h1, h2, h3, h4⟩ := hx
  subst hl
  go_enter Tryz.func81, Tryz.ntmps81
  go_wp2_with (go_at_call 70; refine (clone_any _ _ _ X _ h1 (Nat.le_refl _) (by omega)).mono ?_; rintro e w1 ⟨A1, c1, rfl, hown, hnc, hb1⟩)
  go_loopw [5, 6] (fun rv iv wr => ∃ (j : Nat) (L : List Int) (r : Int), j ≤ X.length ∧ rv = .int .u64 r ∧ iv = .int .i64 ((j : Int) - 1) ∧ wr.ownsRow w.heap.size 67 1 (.slice A1 X.length c1) X.length (L.map (Value.int .u32)) ∧ Below w.heap.size w wr ∧ Hid (PartInv X j L r)) (fun _ iv _ => (intOf iv + 1).toNat)
  case atStart => exact ⟨X.length, X, 0, Nat.le_refl _, rfl, rfl, hown, hb1, Lib.hid (PartInv.start h3)⟩
  case round =>
    obtain ⟨j, L, r, hj, rfl, rfl, hown2, hb2, hp⟩ := hrel
    cases j with
    | zero =>
      rw [show (((0:Nat):Int) - 1) = -1 from rfl]
      have hr0 := hp.out.r0
      have hr1 : r < 1000000000 := hp.out.r1
      go_wp2_with (go_at_call 69; refine (whole_any A1 X.length c1 L wr (Reads.of_own hown2) hnc (by omega)).mono ?_; rintro e w' ⟨rfl, rfl⟩)
      have hm := hp.out.done
      have hU := hp.out.u
      have hLl := hp.out.len
      have h2 := (strip_take L).2
      go_ret2
      exact ⟨A1, (strip L).length, c1, strip L, r, rfl, ⟨whole_reads (Reads.of_own hown2), by omega, hU.strip, by omega⟩, Lib.hid (Norm.strip _), Lib.hid hm, hr0, hr1, by omega, fun ad hA h0 => by obtain ⟨g, hg, hge⟩ := own_at hown2 (by omega); rw [hg] at hA; injection hA with hA; subst hA; exact hge, hb2⟩
    | succ j =>
      have hz : (((j + 1 : Nat) : Int) - 1) = (j : Int) := by omega
      rw [hz]
      obtain ⟨g, rfl, hg⟩ := own_at hown2 (by omega)
      obtain ⟨hcl, hfz⟩ := Reads.getU hown2 (show j < X.length by omega)
      have hst := Lib.hid (hp.out.step (show j < X.length by omega))
      have hLb := hp.out.u.getD j
      have hr0 := hp.out.r0
      have hr1 : r < 1000000000 := hp.out.r1
      have hos := fun x => own_set hown2 j x hb2 hg
      generalize L.getD j 0 = x at *
      unfold W piece at *
      have hx1 : x < 4294967296 := hLb.2
      have hor := or_shl hr0 hr1 hLb.1 hx1
      have hq0 : 0 ≤ r * 4294967296 + x := by omega
      have hq1 : r * 4294967296 + x < 4294967296000000000 := by omega
      have htd : (r * 4294967296 + x).tdiv 1000000000 = (r * 4294967296 + x) / 1000000000 := Int.tdiv_eq_ediv_of_nonneg hq0
      have htm : (r * 4294967296 + x).tmod 1000000000 = (r * 4294967296 + x) % 1000000000 := Int.tmod_eq_emod_of_nonneg hq0
      have hcut : (r * 4294967296 + x) / 1000000000 % 4294967296 = (r * 4294967296 + x) / 1000000000 := by omega
      rw [hcut] at hst
      clear hcut
      have hji : (j : Int) < X.length := by omega
      go_wp2_with fail
      exact ⟨⟨j, _, _, by omega, rfl, rfl, (hos _).1, (hos _).2, hst⟩, by simp [intOf]⟩
end Go.Proofs.YtdkmmnehlmaebaaGreatDoor.Na
