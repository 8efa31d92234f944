/- The law FloReads, walked. Conditions: the library's tables are laid; a slice can be read, its numbers are doubles. -/
import Derived.Test.YtplhlpdcdemopaaDoorGd
namespace Go.Proofs.YtplhlpdcdemopaaDoor
open Go.RowKit Go.FT Go.FX Go.Lib

theorem endV_lt (last : Bool) {xs : List Nat} (h : ∀ x ∈ xs, x < W64) : (endV last xs).1 < W64 := by
  cases xs with
  | nil => show 0 < W64; decide
  | cons x t => exact can_lt (endF_lt t x (h x (by simp)) (fun y hy => h y (by simp [hy])))
set_option maxRecDepth 100000 in
set_option maxHeartbeats 4000000 in
theorem floReads_law (w : World) (hl : Lay w) (S : ByteArray) (A : Option Addr) (xs : List Nat) (c : Nat) (hxs : FS w A xs c) :
    Calls Tryd.prog 5 #[.string S, .slice A xs.length c] w fun e w' => e = .returned (.bool true) ∧ Below w.heap.size w w' := by
  by_cases hs : 300 < S.size
  · have hs' : decide (300 < (S.size : Int)) = true := decide_eq_true (by omega)
    clear hs hxs
    go_enter Tryd.func5, Tryd.ntmps5
    go_wp2_with (go_at_call 16; (with_reducible refine (awake_any _ hl).mono ?_); rintro e w5 ⟨rfl, hb5⟩)
    go_ret
    exact ⟨rfl, hb5⟩
  · by_cases hn : 300 < xs.length
    · have hs' : decide (300 < (S.size : Int)) = false := decide_eq_false (by omega)
      have hn' : decide (300 < (xs.length : Int)) = true := decide_eq_true (by omega)
      clear hs hn hxs
      go_enter Tryd.func5, Tryd.ntmps5
      go_wp2_with (go_at_call 16; (with_reducible refine (awake_any _ hl).mono ?_); rintro e w5 ⟨rfl, hb5⟩)
      go_ret
      exact ⟨rfl, hb5⟩
    · obtain ⟨hr, hx, _, _⟩ := hxs
      have hs' : decide (300 < (S.size : Int)) = false := decide_eq_false (by omega)
      have hn' : decide (300 < (xs.length : Int)) = false := decide_eq_false (by omega)
      have hrd := Rd.of_reads hr
      have HP := Lib.hid (fun (w : World) (hl : Lay w) => parse_any S (by omega) w hl)
      have HQ := Lib.hid (fun (w : World) => rparse_any S (by omega) w)
      have HL := Lib.hid (fun (w1 : World) (hb : Below w.heap.size w w1) => least_any A c xs w1 (hrd.below hb) hx (by omega))
      have HM := Lib.hid (fun (w1 : World) (hb : Below w.heap.size w w1) => most_any A c xs w1 (hrd.below hb) hx (by omega))
      have HE := Lib.hid (fun (w1 : World) (hb : Below w.heap.size w w1) (last : Bool) => rend_any last A c xs w1 (hrd.below hb) hx (by omega))
      unfold PR at HP HQ
      have p1 := (pv_range S.data.toList).1
      have p2 := endV_lt false hx
      have p3 := endV_lt true hx
      have hE1 := HE
      have HE1 := Lib.hid (fun (w1 : World) (hb : Below w.heap.size w w1) => HE.out w1 hb false)
      have HE2 := Lib.hid (fun (w1 : World) (hb : Below w.heap.size w w1) => HE.out w1 hb true)
      clear hs hn hr hrd hx HE hE1
      generalize pv S.data.toList = P at *
      generalize endV false xs = E1 at *
      generalize endV true xs = E2 at *
      obtain ⟨px, pe⟩ := P
      obtain ⟨e1, f1⟩ := E1
      obtain ⟨e2, f2⟩ := E2
      simp only at HP HQ HL HM HE1 HE2 p1 p2 p3
      have HS1 := Lib.hid (same_refl px)
      have HS2 := Lib.hid (same_refl e1)
      have HS3 := Lib.hid (same_refl e2)
      go_enter Tryd.func5, Tryd.ntmps5
      go_wp2_with (first
        | (go_at_call 13; (with_reducible refine (HP.out _ hl).mono ?_); rintro e w1 ⟨rfl, hb1⟩)
        | (go_at_call 18; (with_reducible refine (HQ.out _).mono ?_); rintro e w2 ⟨rfl, hb2⟩; have hb12 := hb1.trans (hb2.mono hb1.size); have hl2 := hl.below hb12)
        | (go_at_call 19; (with_reducible refine (HL.out _ hb12).mono ?_); rintro e w' ⟨rfl, rfl⟩)
        | (go_at_call 21; (with_reducible refine (HM.out _ hb12).mono ?_); rintro e w' ⟨rfl, rfl⟩)
        | (go_at_call 20; (with_reducible refine (HE1.out _ hb12).mono ?_); rintro e w' ⟨rfl, rfl⟩)
        | (go_at_call 20; (with_reducible refine (HE2.out _ hb12).mono ?_); rintro e w' ⟨rfl, rfl⟩)
        | (go_at_call 22; (with_reducible refine (rsame_any px px _ p1 p1).mono ?_); rw [HS1.out]; rintro e w' ⟨rfl, rfl⟩)
        | (go_at_call 22; (with_reducible refine (rsame_any e1 e1 _ p2 p2).mono ?_); rw [HS2.out]; rintro e w' ⟨rfl, rfl⟩)
        | (go_at_call 22; (with_reducible refine (rsame_any e2 e2 _ p3 p3).mono ?_); rw [HS3.out]; rintro e w' ⟨rfl, rfl⟩)
        | (go_at_call 16; (with_reducible refine (awake_any _ hl2).mono ?_); rintro e w5 ⟨rfl, hb5⟩))
      go_ret
      exact ⟨rfl, hb12.trans (hb5.mono hb12.size)⟩
end Go.Proofs.YtplhlpdcdemopaaDoor
