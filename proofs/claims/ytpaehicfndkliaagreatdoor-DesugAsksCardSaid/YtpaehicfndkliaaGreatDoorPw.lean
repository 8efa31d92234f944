
/- The walks of 'text', 'joined', 'Text'. Condition: the tree can be read, its numbers are the machine's. -/
import Derived.Test.YtpaehicfndkliaaGreatDoorPv
import Derived.Test.YtpaehicfndkliaaGreatDoorPl
namespace Go.Proofs.YtpaehicfndkliaaGreatDoor.Pa
open Go.RowKit Go.Lib Na Go.PN

/-- The text of a path, where no bracket is needed. -/
theorem text_flat (n : Nat) (IHS : ∀ (a : Nd) (X : List Nat) (p : Int) (w : World), a.kids.sz < n → Tx w X a → (p = 1 ∨ p = 2) → Calls Tryz.prog 110 #[a.v, .int .i64 p] w fun e w' => e = .returned (strV (txN a.k a.l a.kids a.mn a.mx p)) ∧ Below w.heap.size w w')
    (a : Nd) (X : List Nat) (p : Int) (w : World) (hn : a.kids.sz ≤ n) (h : Tx w X a) (hp : p ≤ bnd a.k) :
    Calls Tryz.prog 110 #[a.v, .int .i64 p] w fun e w' => e = .returned (strV (bodyN a.k a.l a.kids a.mn a.mx)) ∧ Below w.heap.size w w' := by
  obtain ⟨⟨hc, hc2, hat⟩, hvd, hwt⟩ := h
  obtain ⟨k, l, A, c, mn, mx, kids⟩ := a
  unfold Nd.v Nd.fo at *
  simp only at hn hc hc2 hat hvd hwt hp ⊢
  have HJ : Hid (JC w kids A c) := fun q sep w1 hb hq hs => joined_of n IHS kids A c X q sep w1 hn hc hc2 (hat.below hb) hvd.2.1 (by simp only [Fo.wt] at hwt; omega) hq hs
  rcases (show k = 2 ∨ k = 3 ∨ k = 4 ∨ k = 5 ∨ k = 6 ∨ k = 7 ∨ k = 8 ∨ k = 9 ∨ (k < 2 ∨ 9 < k) from by omega) with rfl | rfl | rfl | rfl | rfl | rfl | rfl | rfl | hk
  · exact text_2 l A c mn mx kids p w hp hwt hvd HJ
  · exact text_3 l A c mn mx kids p w hp hwt hvd HJ
  · exact text_4 l A c mn mx kids p w hp hwt hvd HJ
  · exact text_5 l A c mn mx kids p w hp hwt hvd HJ
  · exact text_6 l A c mn mx kids p w hp hwt hvd HJ
  · exact text_7 l A c mn mx kids p w hp hwt hvd HJ
  · exact text_8 l A c mn mx kids p w hp hwt hvd HJ
  · by_cases hm : mx = -1
    · exact text_9a l A c mn mx kids p w hp hwt hvd HJ hm
    · exact text_9b l A c mn mx kids p w hp hwt hvd HJ hm
  · exact text_0 k l A c mn mx kids p w hp hk
theorem bnd_rng (k : Int) : 0 ≤ bnd k ∧ bnd k ≤ 2 := by
  unfold bnd
  repeat' split
  all_goals omega
set_option maxRecDepth 100000 in
set_option maxHeartbeats 4000000 in
theorem text_n (n : Nat) : ∀ (a : Nd) (X : List Nat) (p : Int) (w : World), a.kids.sz < n → Tx w X a → (p = 0 ∨ p = 1 ∨ p = 2) →
    Calls Tryz.prog 110 #[a.v, .int .i64 p] w fun e w' => e = .returned (strV (txN a.k a.l a.kids a.mn a.mx p)) ∧ Below w.heap.size w w' := by
  induction n with
  | zero => intro a X p w hn; omega
  | succ n ih =>
    intro a X p w hn h hp
    have IHS := fun (a : Nd) (X : List Nat) (p : Int) (w : World) h1 h2 h3 => ih a X p w h1 h2 (Or.inr h3)
    by_cases hb : p ≤ bnd a.k
    · have e : txN a.k a.l a.kids a.mn a.mx p = bodyN a.k a.l a.kids a.mn a.mx := if_neg (by omega)
      rw [e]
      exact text_flat n IHS a X p w (by omega) h hb
    · have e : txN a.k a.l a.kids a.mn a.mx p = [40] ++ bodyN a.k a.l a.kids a.mn a.mx ++ [41] := if_pos (by omega)
      rw [e]
      have HF := Lib.hid (fun (w1 : World) (hb : Below w.heap.size w w1) => text_flat n IHS a X 0 w1 (by omega) ⟨h.1.below hb, h.2.1, h.2.2⟩ (bnd_rng a.k).1)
      have hl : (bodyN a.k a.l a.kids a.mn a.mx).length ≤ 1000000 := by
        have h1 := txN_len a.k a.l a.kids a.mn a.mx 0 h.2.1
        have e0 : txN a.k a.l a.kids a.mn a.mx 0 = bodyN a.k a.l a.kids a.mn a.mx := if_neg (by have := bnd_rng a.k; omega)
        rw [e0] at h1
        have := h.2.2
        unfold Nd.fo at this
        omega
      obtain ⟨k, l, A, c, mn, mx, kids⟩ := a
      clear h IHS ih hn
      unfold Nd.v at *
      simp only at hb hl HF ⊢
      have HB := Lib.hid (fun w => bnd_any k w)
      have td : decide (bnd k < p) = true := decide_eq_true (by omega)
      generalize bnd k = B at *
      have HB1 := Lib.hid (fun o => (Below.refl _ w).alloc (Nat.le_refl _) o)
      generalize bodyN k l kids mn mx = t at *
      have hs1 : ¬ 9223372036854775807 < 1 + t.length := by omega
      have hs2 : ¬ 9223372036854775807 < 1 + t.length + 1 := by omega
      clear hb hp e
      go_enter Tryz.func110, Tryz.ntmps110
      go_wp2_with (first | (go_at_call 120; (with_reducible refine (HB.out _).mono ?_); rintro e w2 ⟨rfl, rfl⟩) | (go_at_call 110; (with_reducible refine (HF.out _ (HB1.out _)).mono ?_); rintro e w3 ⟨rfl, hb3⟩))
      go_ret
      exact ⟨congrArg (fun z => Ending.returned (Value.string z)) (by apply ByteArray.ext; simp), (HB1.out _).trans (hb3.mono (HB1.out _).size)⟩
/-- A path's text, of one that may be; else none. -/
def textT (k : Int) (l : ByteArray) (d : Fo) (mn mx : Int) : List UInt8 := if checkE k l d mn mx = 0 then bodyN k l d mn mx else []
set_option maxRecDepth 100000 in
set_option maxHeartbeats 4000000 in
theorem Text_any (a : Nd) (X : List Nat) (w : World) (h : a.ok w X) (hbd : Bd (a.fo .nil)) : Calls Tryz.prog 89 #[a.v] w fun e w' => e = .returned (strV (textT a.k a.l a.kids a.mn a.mx)) ∧ Below w.heap.size w w' := by
  have HC := Lib.hid (fun (w1 : World) (hb : Below w.heap.size w w1) => check_any a X w1 (h.below hb) hbd)
  by_cases hc : checkE a.k a.l a.kids a.mn a.mx = 0
  · have e : textT a.k a.l a.kids a.mn a.mx = txN a.k a.l a.kids a.mn a.mx 0 := by
      unfold textT
      rw [if_pos hc]
      exact (if_neg (by have := bnd_rng a.k; omega)).symm
    have hv := check_zero hc
    have HT := Lib.hid (fun (w1 : World) (hb : Below w.heap.size w w1) => text_n (a.kids.sz + 1) a X 0 w1 (by omega) ⟨h.below hb, hv.1.vd, by unfold Nd.fo; omega⟩ (Or.inl rfl))
    rw [e]
    obtain ⟨k, l, A, c, mn, mx, kids⟩ := a
    clear h hbd hv e
    unfold Nd.v at *
    simp only at HC HT hc ⊢
    rw [hc] at HC
    have HB1 := Lib.hid ((Below.refl _ w).alloc (Nat.le_refl _) (.cells #[.int .i64 k, .string l, .slice A kids.len c, .int .i64 mn, .int .i64 mx] 24))
    have HX := Lib.hid (fun (w2 : World) (hb : Below (w.heap.size + 1) (w.alloc (.cells #[.int .i64 k, .string l, .slice A kids.len c, .int .i64 mn, .int .i64 mx] 24)) w2) => box_cells k l A kids.len c mn mx hb)
    have HX2 := Lib.hid (fun (w2 : World) (hb : Below (w.heap.size + 1) (w.alloc (.cells #[.int .i64 k, .string l, .slice A kids.len c, .int .i64 mn, .int .i64 mx] 24)) w2) => box_below hb)
    have hsz2 : (w.alloc (.cells #[.int .i64 k, .string l, .slice A kids.len c, .int .i64 mn, .int .i64 mx] 24)).heap.size = w.heap.size + 1 := by simp
    have HZ := Lib.hid hsz2
    clear hsz2 hc
    generalize txN k l kids mn mx 0 = t at *
    go_enter Tryz.func89, Tryz.ntmps89
    go_wp2_with (first | (go_at_call 25; (with_reducible refine (HC.out _ HB1.out).mono ?_); rintro e w1 ⟨rfl, hb1⟩; have hb1 := Lib.hid (HZ.out ▸ hb1); obtain ⟨hx0, hx1, hx2, hx3, hx4⟩ := HX.out _ hb1.out) | (go_at_call 110; (with_reducible refine (HT.out _ (HX2.out _ hb1.out)).mono ?_); rintro e w3 ⟨rfl, hb3⟩; have hb3 := Lib.hid (hb1.out.trans (hb3.mono (Nat.le_trans (Nat.le_of_eq HZ.out.symm) hb1.out.size)))))
    go_ret
    exact ⟨rfl, HX2.out _ hb3.out⟩
  · have e : textT a.k a.l a.kids a.mn a.mx = [] := if_neg hc
    rw [e]
    obtain ⟨k, l, A, c, mn, mx, kids⟩ := a
    clear h hbd e
    unfold Nd.v at *
    simp only at HC hc ⊢
    generalize checkE k l kids mn mx = E at *
    have tE : (E != 0) = true := by rw [bne_iff_ne]; exact hc
    have HB1 := Lib.hid ((Below.refl _ w).alloc (Nat.le_refl _) (.cells #[.int .i64 k, .string l, .slice A kids.len c, .int .i64 mn, .int .i64 mx] 24))
    clear hc
    go_enter Tryz.func89, Tryz.ntmps89
    go_wp2_with (go_at_call 25; (with_reducible refine (HC.out _ HB1.out).mono ?_); rintro e w1 ⟨rfl, hb1⟩)
    go_ret
    exact ⟨rfl, HB1.out.trans (hb1.mono HB1.out.size)⟩
end Go.Proofs.YtpaehicfndkliaaGreatDoor.Pa
