/- The first and the last of a list of doubles, walked. Conditions: the slice can be read, its numbers are doubles. -/
import Derived.Test.YtplhlpdcdemopaaDoorFs
import Derived.Outline
namespace Go.Proofs.YtplhlpdcdemopaaDoor
open Go.RowKit Go.FT Go.FX

set_option maxRecDepth 100000 in
set_option maxHeartbeats 1000000 in
theorem end_any (last : Bool) (A : Option Addr) (c : Nat) (xs : List Nat) (w : World) {B : Nat} (hr : Rd w B A xs) (hx : ∀ x ∈ xs, x < W64) (hn : xs.length ≤ 1000) :
    Calls Tryd.prog 57 #[.slice A xs.length c, .bool last] w fun e w' => e = .returned (.tuple #[.float .f64 (endV last xs).1, .int .i64 (endV last xs).2]) ∧ w = w' := by
  cases hxs : xs with
  | nil =>
    go_enter Tryd.func57, Tryd.ntmps57
    go_wp2
    go_ret2
    exact ⟨rfl, rfl⟩
  | cons x0 t =>
    have hlen : 0 < xs.length := by rw [hxs]; simp
    have h0 : x0 < W64 := hx x0 (by rw [hxs]; simp)
    have HE : Hid (endV last xs = (can (endF last x0 xs), 0)) := Lib.hid (by
      rw [hxs]; show (can (endF last x0 t), (0 : Int)) = (can (endF last (pick last x0 x0) t), 0)
      rw [pick_self])
    have HL := Lib.hid (endF_lt (last := last) xs x0 h0 hx)
    have HTK := Lib.hid (fun k (hk : k < xs.length) => endF_take (last := last) hk x0)
    have HTL := Lib.hid (fun k => endF_lt (last := last) (xs.take k) x0 h0 (fun y hy => hx y (List.mem_of_mem_take hy)))
    obtain ⟨ad0, rfl, hb0, hc0⟩ := hr 0 hlen
    have hg0 : xs.getD 0 0 = x0 := by rw [hxs]; rfl
    rw [hg0] at hc0
    rw [← hxs]
    clear hxs hg0
    rw [show ad0.add 0 = ad0 by simp [Addr.add]] at hc0
    have hl0 : ((xs.length : Int) == 0) = false := by rw [beq_eq_false_iff_ne]; omega
    go_enter Tryd.func57, Tryd.ntmps57
    go_wp2
    go_loopw [6, 17] (fun o i wr => ∃ k : Nat, wr = w ∧ i = .int .i64 k ∧ o = .float .f64 (endF last x0 (xs.take k)) ∧ k ≤ xs.length) (fun _ i _ => xs.length - (RowKit.intOf i).toNat)
    case atStart => exact ⟨0, rfl, rfl, rfl, Nat.zero_le _⟩
    case round =>
      obtain ⟨k, rfl, rfl, rfl, hk⟩ := hrel
      by_cases hlt : k < xs.length
      · obtain ⟨ad, hA, hb, hc⟩ := hr k hlt
        obtain rfl : ad0 = ad := by injection hA
        have hxk : xs.getD k 0 < W64 := hx _ (by rw [List.getD_eq_getElem?_getD, List.getElem?_eq_getElem hlt]; exact List.getElem_mem hlt)
        have ho := HTL.out k
        have hs := Lib.hid (HTK.out k hlt)
        generalize xs.getD k 0 = x at *
        generalize endF last x0 (xs.take k) = o at *
        have hp : Hid (pick last o x = if ((less x o != last) && !same x o) then x else o) := Lib.hid (by unfold pick; rw [best_and ho hxk last])
        cases hl1 : less x o <;> cases hs1 : same x o <;> cases last
        all_goals
          rw [hl1, hs1] at hp
          go_wp2_with (first | (go_at_call 17; (with_reducible refine (less_any x o _ hxk ho).mono ?_); rw [hl1]; rintro e w' ⟨rfl, rfl⟩) | (go_at_call 15; (with_reducible refine (same_any x o _ hxk ho).mono ?_); rw [hs1]; rintro e w' ⟨rfl, rfl⟩))
          go_roundw
          case rel => exact ⟨k + 1, trivial, by go_num, by rw [hs.out, hp.out]; rfl, by omega⟩
          case measure => simp [RowKit.intOf]; omega
      · have hke : Hid (xs.take k = xs) := Lib.hid (List.take_of_length_le (by omega))
        have hgo : Hid (endF last x0 (xs.take k) = endF last x0 xs) := Lib.hid (by rw [hke.out])
        rw [hgo.out]
        have hlw := HL.out
        generalize endF last x0 xs = o at *
        go_wp2_with (first | (go_at_call 27; (with_reducible refine (bits_any o _ hlw).mono ?_); rintro e w' ⟨rfl, rfl⟩) | (go_at_call 12; (with_reducible refine (of_can o hlw _).mono ?_); rintro e w' ⟨rfl, rfl⟩))
        go_ret2
        exact ⟨by rw [HE.out]; rfl, rfl⟩
end Go.Proofs.YtplhlpdcdemopaaDoor
