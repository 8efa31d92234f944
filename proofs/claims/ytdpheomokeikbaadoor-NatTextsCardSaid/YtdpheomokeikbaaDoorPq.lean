/- Numbers' bytes and bytes' numbers: what nat and the document answer, side by side. Conditions: the arguments can be read. -/
import Derived.Test.YtdpheomokeikbaaDoorPp
namespace Go.Proofs.YtdpheomokeikbaaDoor
open Go.RowKit Go.NT Go.Lib

theorem bytes_both (b : Bool) (A : Option Addr) (n c : Nat) (xs : List Int) : ∃ (l : List Int) (err : Int),
    (∀ w, NV w A n c xs → Calls Tryd.prog 28 #[.agg #[.bool b, .slice A n c]] w fun e w' => BX w w' e l err) ∧ (∀ w, NV w A n c xs → Calls Tryd.prog 29 #[.agg #[.bool b, .slice A n c]] w fun e w' => BX w w' e l err) := by
  by_cases hM : (if b then ((n : Int) == 0) else (((strip xs).length : Int) == (n : Int))) = true
  · cases b with
    | true =>
      have hn : ((n : Int) == 0) = true := hM
      have hn0 : (n : Int) = 0 := by simpa using hn
      exact ⟨[255], 0, fun w h => (bytes_inf A n c xs w h (Lib.hid hn)).mono fun e w' ⟨g, he, hr, hb⟩ => ⟨some ⟨g, 0, none⟩, 1, he, hr, hb⟩,
        fun w h => (rbytes_inf A n c xs w h (Lib.hid hn) (by omega)).mono fun e w' ⟨g, he, hr, hb⟩ => ⟨some ⟨g, 0, none⟩, 1, he, hr, hb⟩⟩
    | false =>
      by_cases hn : n ≤ 64
      · refine ⟨byteL n xs, 0, fun w h => (bytes_fin A n c xs w h hn (Lib.hid hM)).mono fun e w' ⟨A', c', he, hr, _, hb⟩ => ?_, fun w h => (rbytes_fin A n c xs w h hn (Lib.hid hM)).mono fun e w' ⟨A', c', he, hr, _, hb⟩ => ?_⟩
        all_goals
          refine ⟨A', c', ?_, ?_, hb⟩
          · rw [byteL_len h.len]; exact he
          · rw [byteL_len h.len]; exact hr
      · exact ⟨[], 5, fun w h => (bytes_much A n c xs w h (Lib.hid hM) (by omega)).mono fun e w' ⟨he, hb⟩ => by subst he; exact BX.nil 5 hb,
          fun w h => (rbytes_much A n c xs w h (Lib.hid hM) (by omega)).mono fun e w' ⟨he, hb⟩ => by subst he; exact BX.nil 5 hb⟩
  · have hM : (if b then ((n : Int) == 0) else (((strip xs).length : Int) == (n : Int))) = false := (Bool.not_eq_true _).mp hM
    exact ⟨[], 16, fun w h => (bytes_not b A n c xs w h (Lib.hid hM)).mono fun e w' ⟨he, hb⟩ => by subst he; exact BX.nil 16 hb,
      fun w h => (rbytes_not b A n c xs w h (Lib.hid hM)).mono fun e w' ⟨he, hb⟩ => by subst he; exact BX.nil 16 hb⟩
/-- A number that bytes begin with, how many they are, and an error's number. -/
def UX (w w' : World) (e : Ending) (m : Option Int) (nn err : Int) : Prop :=
  ∃ (b : Bool) (A : Option Addr) (n c : Nat) (rs : List Int), e = .returned (.tuple #[.agg #[.bool b, .slice A n c], .int .i64 nn, .int .i64 err]) ∧ NV w' A n c rs ∧ Hid (mean b rs = m) ∧ Hid (Norm rs) ∧ Hid (b = true → rs = []) ∧ Below w.heap.size w w'
theorem UX.zero {w w' : World} (h : Below w.heap.size w w') : UX w w' (.returned (.tuple #[.agg #[.bool false, .slice none 0 0], .int .i64 0, .int .i64 13])) (some 0) 0 13 :=
  ⟨false, none, 0, 0, [], rfl, NV.nil _, Lib.hid rfl, Lib.hid Norm.nil, Lib.hid (fun _ => rfl), h⟩
theorem UX.inf {w w' : World} (h : Below w.heap.size w w') : UX w w' (.returned (.tuple #[.agg #[.bool true, .slice none 0 0], .int .i64 1, .int .i64 0])) none 1 0 :=
  ⟨true, none, 0, 0, [], rfl, NV.nil _, Lib.hid rfl, Lib.hid Norm.nil, Lib.hid (fun _ => rfl), h⟩
/-- The digit that four bytes are. -/
def limb (zs : List Int) (k : Nat) : Int := zs.getD (1 + 4 * k) 0 + 256 * zs.getD (1 + 4 * k + 1) 0 + 65536 * zs.getD (1 + 4 * k + 2) 0 + 16777216 * zs.getD (1 + 4 * k + 3) 0
theorem byte_in {zs : List Int} (h : ∀ z ∈ zs, 0 ≤ z ∧ z ≤ 255) (i : Nat) : 0 ≤ zs.getD i 0 ∧ zs.getD i 0 ≤ 255 := by
  rw [List.getD_eq_getElem?_getD]
  by_cases hi : i < zs.length
  · rw [List.getElem?_eq_getElem hi]; exact h _ (List.getElem_mem hi)
  · rw [List.getElem?_eq_none (by omega)]; exact ⟨by simp, by simp⟩
theorem limb_bytes {zs : List Int} (h : ∀ z ∈ zs, 0 ≤ z ∧ z ≤ 255) (k : Nat) : 0 ≤ limb zs k ∧ limb zs k < 4294967296 ∧
    zs.getD (1 + 4 * k) 0 = limb zs k % 256 ∧ zs.getD (1 + 4 * k + 1) 0 = limb zs k / 256 % 256 ∧ zs.getD (1 + 4 * k + 2) 0 = limb zs k / 65536 % 256 ∧ zs.getD (1 + 4 * k + 3) 0 = limb zs k / 16777216 := by
  unfold limb
  have h0 := byte_in h (1 + 4 * k)
  have h1 := byte_in h (1 + 4 * k + 1)
  have h2 := byte_in h (1 + 4 * k + 2)
  have h3 := byte_in h (1 + 4 * k + 3)
  generalize zs.getD (1 + 4 * k) 0 = a at *
  generalize zs.getD (1 + 4 * k + 1) 0 = b at *
  generalize zs.getD (1 + 4 * k + 2) 0 = c at *
  generalize zs.getD (1 + 4 * k + 3) 0 = d at *
  omega
theorem unb_both (A : Option Addr) (L c : Nat) (zs : List Int) (hzs : ∀ z ∈ zs, 0 ≤ z ∧ z ≤ 255) (hL : L ≤ 9223372036854775807) : ∃ (m : Option Int) (nn err : Int),
    (∀ w, Reads w w.heap.size 1 A L (zs.map (Value.int .u8)) → Calls Tryd.prog 30 #[.slice A L c] w fun e w' => UX w w' e m nn err) ∧ (∀ w, Reads w w.heap.size 1 A L (zs.map (Value.int .u8)) → Calls Tryd.prog 31 #[.slice A L c] w fun e w' => UX w w' e m nn err) := by
  by_cases h0 : L = 0
  · subst h0
    exact ⟨some 0, 0, 13, fun w _ => (unb_none A c w).mono fun e w' ⟨he, hb⟩ => by subst he; exact UX.zero hb, fun w _ => (runb_none A c w).mono fun e w' ⟨he, hb⟩ => by subst he; exact UX.zero hb⟩
  have hz0 := byte_in hzs 0
  obtain ⟨z, hz⟩ : ∃ z, z = zs.getD 0 0 := ⟨_, rfl⟩
  rw [← hz] at hz0
  by_cases h255 : z = 255
  · exact ⟨none, 1, 0, fun w h => (unb_inf A L c zs w h (by omega) (by omega)).mono fun e w' ⟨he, hb⟩ => by subst he; exact UX.inf hb, fun w h => (runb_inf A L c zs w h (by omega) (by omega)).mono fun e w' ⟨he, hb⟩ => by subst he; exact UX.inf hb⟩
  by_cases h64 : 64 < z
  · exact ⟨some 0, 0, 13, fun w h => (unb_much A L c zs w h (by omega) z hz.symm h255 h64 hz0.2).mono fun e w' ⟨he, hb⟩ => by subst he; exact UX.zero hb, fun w h => (runb_much A L c zs w h (by omega) z hz.symm h255 h64 hz0.2).mono fun e w' ⟨he, hb⟩ => by subst he; exact UX.zero hb⟩
  by_cases hfew : (L : Int) < 1 + 4 * z
  · exact ⟨some 0, 0, 13, fun w h => (unb_few A L c zs w h (by omega) z hz.symm h255 h64 hz0.1 hfew hz0.2).mono fun e w' ⟨he, hb⟩ => by subst he; exact UX.zero hb, fun w h => (runb_few A L c zs w h (by omega) z hz.symm h255 h64 hz0.1 hfew hz0.2).mono fun e w' ⟨he, hb⟩ => by subst he; exact UX.zero hb⟩
  obtain ⟨n, hn⟩ : ∃ n : Nat, (n : Int) = z := ⟨z.toNat, by omega⟩
  obtain ⟨xs, hxs⟩ : ∃ xs, xs = (List.range n).map (limb zs) := ⟨_, rfl⟩
  have hxl : xs.length = n := by rw [hxs]; simp
  have hget : ∀ k, k < n → xs.getD k 0 = limb zs k := fun k hk => by
    rw [hxs, List.getD_eq_getElem?_getD, List.getElem?_map, List.getElem?_range hk]; rfl
  have hu : U32 xs := by
    intro x hx
    rw [hxs] at hx
    obtain ⟨k, _, rfl⟩ := List.mem_map.1 hx
    have := limb_bytes hzs k
    exact ⟨this.1, this.2.1⟩
  have hZ : Hid (∀ k, k < n → zs.getD (1 + 4 * k) 0 = xs.getD k 0 % 256 ∧ zs.getD (1 + 4 * k + 1) 0 = xs.getD k 0 / 256 % 256 ∧ zs.getD (1 + 4 * k + 2) 0 = xs.getD k 0 / 65536 % 256 ∧ zs.getD (1 + 4 * k + 3) 0 = xs.getD k 0 / 16777216) :=
    Lib.hid (fun k hk => by rw [hget k hk]; exact (limb_bytes hzs k).2.2)
  by_cases hM : (if false then ((n : Int) == 0) else (((strip xs).length : Int) == (n : Int))) = true
  · have hN := norm_may hxl hM
    refine ⟨mean false xs, 1 + 4 * n, 0, fun w h => (unb_fin A L c n zs xs w h (by omega) (by omega) hL (by omega) hxl hu hZ (Lib.hid hM)).mono fun e w' ⟨A', c', he, hv, hb⟩ => ⟨false, A', n, c', xs, he, hv, Lib.hid rfl, Lib.hid hN, Lib.hid (fun h => by cases h), hb⟩, fun w h => (runb_fin A L c n zs xs w h (by omega) (by omega) hL (by omega) hxl hu hZ (Lib.hid hM)).mono fun e w' ⟨A', c', he, hv, hb⟩ => ⟨false, A', n, c', xs, he, hv, Lib.hid rfl, Lib.hid hN, Lib.hid (fun h => by cases h), hb⟩⟩
  · have hM : (if false then ((n : Int) == 0) else (((strip xs).length : Int) == (n : Int))) = false := (Bool.not_eq_true _).mp hM
    exact ⟨some 0, 0, 13, fun w h => (unb_fnot A L c n zs xs w h (by omega) (by omega) hL (by omega) hxl hu hZ (Lib.hid hM)).mono fun e w' ⟨he, hb⟩ => by subst he; exact UX.zero hb, fun w h => (runb_fnot A L c n zs xs w h (by omega) (by omega) hL (by omega) hxl hu hZ (Lib.hid hM)).mono fun e w' ⟨he, hb⟩ => by subst he; exact UX.zero hb⟩
end Go.Proofs.YtdpheomokeikbaaDoor
