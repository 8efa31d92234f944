/- The document's first and last of a list of doubles, walked. Conditions: the slice can be read, its numbers are doubles. -/
import Derived.Test.YtplhlpdcdemopaaDoorFt
namespace Go.Proofs.YtplhlpdcdemopaaDoor
open Go.RowKit Go.FT Go.FX

set_option maxRecDepth 100000 in
set_option maxHeartbeats 1000000 in
theorem rend_any (last : Bool) (A : Option Addr) (c : Nat) (xs : List Nat) (w : World) {B : Nat} (hr : Rd w B A xs) (hx : ∀ x ∈ xs, x < W64) (hn : xs.length ≤ 1000) :
    Calls Tryd.prog 20 #[.slice A xs.length c, .bool last] w fun e w' => e = .returned (.tuple #[.float .f64 (endV last xs).1, .int .i64 (endV last xs).2]) ∧ w = w' := by
  cases hxs : xs with
  | nil =>
    go_enter Tryd.func20, Tryd.ntmps20
    go_wp2
    go_ret2
    exact ⟨rfl, rfl⟩
  | cons x0 t =>
    have hlen : 0 < xs.length := by rw [hxs]; simp
    have h0 : x0 < W64 := hx x0 (by rw [hxs]; simp)
    have HE : Hid (endV last xs = (can (endF last x0 xs), 0)) := Lib.hid (by
      rw [hxs]; show (can (endF last x0 t), (0 : Int)) = (can (endF last (pick last x0 x0) t), 0)
      rw [pick_self])
    have HL := Lib.hid (endF_lt (last := last) xs x0 h0 hx)
    have HTK := Lib.hid (fun k (hk : k < xs.length) => endF_take (last := last) hk x0)
    have HTL := Lib.hid (fun k => endF_lt (last := last) (xs.take k) x0 h0 (fun y hy => hx y (List.mem_of_mem_take hy)))
    obtain ⟨ad0, rfl, hb0, hc0⟩ := hr 0 hlen
    have hg0 : xs.getD 0 0 = x0 := by rw [hxs]; rfl
    rw [hg0] at hc0
    rw [← hxs]
    clear hxs
    rw [show ad0.add 0 = ad0 by simp [Addr.add]] at hc0
    have HT1 : Hid (endF last x0 (xs.take 1) = x0) := Lib.hid (by have := HTK.out 0 hlen; rw [hg0] at this; rw [show (1 : Nat) = 0 + 1 from rfl, this]; exact pick_self last x0)
    clear hg0
    have hl0 : ((xs.length : Int) == 0) = false := by rw [beq_eq_false_iff_ne]; omega
    go_enter Tryd.func20, Tryd.ntmps20
    go_wp2
    go_loopw [6, 7] (fun o i wr => ∃ k : Nat, wr = w ∧ 1 ≤ k ∧ i = .int .i64 k ∧ o = .float .f64 (endF last x0 (xs.take k)) ∧ k ≤ xs.length) (fun _ i _ => xs.length - (RowKit.intOf i).toNat)
    case atStart => exact ⟨1, rfl, by omega, rfl, by rw [HT1.out], hlen⟩
    case round =>
      obtain ⟨k, rfl, hk1, rfl, rfl, hk⟩ := hrel
      by_cases hlt : k < xs.length
      · obtain ⟨ad, hA, hb, hc⟩ := hr k hlt
        obtain rfl : ad0 = ad := by injection hA
        have hxk : xs.getD k 0 < W64 := hx _ (by rw [List.getD_eq_getElem?_getD, List.getElem?_eq_getElem hlt]; exact List.getElem_mem hlt)
        have ho := HTL.out k
        have hs := Lib.hid (HTK.out k hlt)
        generalize xs.getD k 0 = x at *
        generalize endF last x0 (xs.take k) = o at *
        have hp : Hid (pick last o x = if (last && less o x || !last && less x o) then x else o) := Lib.hid (by unfold pick best; cases last <;> simp)
        cases last
        · cases hl1 : less x o
          all_goals
            rw [hl1] at hp
            go_wp2_with (go_at_call 29; (with_reducible refine (rless_any x o _ hxk ho).mono ?_); rw [hl1]; rintro e w' ⟨rfl, rfl⟩)
            go_roundw
            case rel => exact ⟨k + 1, trivial, by omega, by go_num, by rw [hs.out, hp.out]; rfl, by omega⟩
            case measure => simp [RowKit.intOf]; omega
        · cases hl1 : less o x
          all_goals
            rw [hl1] at hp
            go_wp2_with (go_at_call 29; (with_reducible refine (rless_any o x _ ho hxk).mono ?_); rw [hl1]; rintro e w' ⟨rfl, rfl⟩)
            go_roundw
            case rel => exact ⟨k + 1, trivial, by omega, by go_num, by rw [hs.out, hp.out]; rfl, by omega⟩
            case measure => simp [RowKit.intOf]; omega
      · have hke : Hid (xs.take k = xs) := Lib.hid (List.take_of_length_le (by omega))
        have hgo : Hid (endF last x0 (xs.take k) = endF last x0 xs) := Lib.hid (by rw [hke.out])
        rw [hgo.out]
        have hlw := HL.out
        generalize endF last x0 xs = o at *
        go_wp2_with (first | (go_at_call 28; (with_reducible refine (rbits_any o _ hlw).mono ?_); rintro e w' ⟨rfl, rfl⟩) | (go_at_call 30; (with_reducible refine (rof_can o hlw _).mono ?_); rintro e w' ⟨rfl, rfl⟩))
        go_ret2
        exact ⟨by rw [HE.out]; rfl, rfl⟩
theorem least_any (A : Option Addr) (c : Nat) (xs : List Nat) (w : World) {B : Nat} (hr : Rd w B A xs) (hx : ∀ x ∈ xs, x < W64) (hn : xs.length ≤ 1000) :
    Calls Tryd.prog 19 #[.slice A xs.length c] w fun e w' => e = .returned (.tuple #[.float .f64 (endV false xs).1, .int .i64 (endV false xs).2]) ∧ w = w' := by
  have h := end_any false A c xs w hr hx hn
  go_enter Tryd.func19, Tryd.ntmps19
  go_wp2_with (go_at_call 57; refine h.mono ?_; rintro e w' ⟨rfl, rfl⟩)
  go_ret2
  exact ⟨rfl, rfl⟩
theorem most_any (A : Option Addr) (c : Nat) (xs : List Nat) (w : World) {B : Nat} (hr : Rd w B A xs) (hx : ∀ x ∈ xs, x < W64) (hn : xs.length ≤ 1000) :
    Calls Tryd.prog 21 #[.slice A xs.length c] w fun e w' => e = .returned (.tuple #[.float .f64 (endV true xs).1, .int .i64 (endV true xs).2]) ∧ w = w' := by
  have h := end_any true A c xs w hr hx hn
  go_enter Tryd.func21, Tryd.ntmps21
  go_wp2_with (go_at_call 57; refine h.mono ?_; rintro e w' ⟨rfl, rfl⟩)
  go_ret2
  exact ⟨rfl, rfl⟩
end Go.Proofs.YtplhlpdcdemopaaDoor
