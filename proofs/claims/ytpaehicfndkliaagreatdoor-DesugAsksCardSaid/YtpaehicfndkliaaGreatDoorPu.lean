
/- The walks of 'binding', 'joined'. Condition: the tree can be read, its texts are not too long. -/
import Derived.Test.YtpaehicfndkliaaGreatDoorPt
namespace Go.Proofs.YtpaehicfndkliaaGreatDoor.Pa
open Go.RowKit Go.Lib Na Go.PN

theorem bnd_any (k : Int) (w : World) : Calls Tryz.prog 120 #[.int .i64 k] w fun e w' => e = .returned (.int .i64 (bnd k)) ∧ w' = w := by
  rcases (show k = 5 ∨ k = 4 ∨ (k ≠ 5 ∧ k ≠ 4) from by omega) with rfl | rfl | ⟨h1, h2⟩
  · go_enter Tryz.func120, Tryz.ntmps120
    go_wp2
    go_ret
    exact ⟨rfl, rfl⟩
  · go_enter Tryz.func120, Tryz.ntmps120
    go_wp2
    go_ret
    exact ⟨rfl, rfl⟩
  · have t5 : (k == 5) = false := by rw [beq_eq_false_iff_ne]; omega
    have t4 : (k == 4) = false := by rw [beq_eq_false_iff_ne]; omega
    have hE := Lib.hid (show bnd k = 2 by unfold bnd; rw [if_neg h1, if_neg h2])
    clear h1 h2
    go_enter Tryz.func120, Tryz.ntmps120
    go_wp2
    go_ret
    exact ⟨by rw [hE.out]; rfl, rfl⟩
theorem infoStr : (Tryz.prog.info? 9).map (fun i => (i.zero, i.size, i.bytes)) = some (some (.string ⟨#[]⟩), 1, 16) := by kernel_rfl
theorem i9 : ∃ i, Tryz.prog.info? 9 = some i ∧ i.zero = some (Value.string ⟨#[]⟩) ∧ i.size = 1 ∧ i.bytes = 16 := by
  have h := infoStr
  cases hi : Tryz.prog.info? 9 with
  | none => rw [hi] at h; cases h
  | some i =>
    rw [hi] at h
    simp only [Option.map_some, Option.some.injEq, Prod.mk.injEq] at h
    exact ⟨i, rfl, h.1, h.2.1, h.2.2⟩
/-- What is asked of a path whose text is written. -/
def Tx (w : World) (X : List Nat) (a : Nd) : Prop := a.ok w X ∧ Vd (a.fo .nil) ∧ (a.fo .nil).wt ≤ 1000000
set_option maxRecDepth 100000 in
set_option maxHeartbeats 4000000 in
theorem joined_of (n : Nat) (IHS : ∀ (a : Nd) (X : List Nat) (p : Int) (w : World), a.kids.sz < n → Tx w X a → (p = 1 ∨ p = 2) → Calls Tryz.prog 110 #[a.v, .int .i64 p] w fun e w' => e = .returned (strV (txN a.k a.l a.kids a.mn a.mx p)) ∧ Below w.heap.size w w')
    (kids : Fo) (A : Option Addr) (c : Nat) (X : List Nat) (p : Int) (sep : List UInt8) (w : World) (hn : kids.sz ≤ n) (hc : kids.len ≤ c) (hc2 : c ≤ 9223372036854775807) (hat : At w X kids A) (hvd : Vd kids) (hwt : kids.wt ≤ 1000000) (hp : p = 1 ∨ p = 2) (hsep : sep.length ≤ 1) :
    Calls Tryz.prog 122 #[.slice A kids.len c, .int .i64 p, .string ⟨sep.toArray⟩] w fun e w' => e = .returned (strV (Lib.join (tx kids p) sep)) ∧ Below w.heap.size w w' := by
  obtain ⟨i9, hi, hz0, hz1, hz2⟩ := i9
  have HN := Lib.hid hn
  have HA := Lib.hid hat
  have IH := Lib.hid IHS
  have HV := Lib.hid hvd
  have HWT := Lib.hid hwt
  have HP := Lib.hid hp
  have HB1 := Lib.hid (fun (w : World) o => (Below.refl _ w).alloc (Nat.le_refl _) o)
  have hown0 := World.ownsRow_nil w w.heap.size 9 1
  have hkl : kids.len ≤ 1000000 := by
    have h1 := lens1_tx kids p hvd
    have h2 : ∀ L : List (List UInt8), L.length ≤ lens1 L := by
      intro L
      induction L with
      | nil => exact Nat.le_refl _
      | cons t L ih => rw [lens1_cons, List.length_cons]; omega
    have h3 := h2 (tx kids p)
    rw [tx_len] at h3
    omega
  have hjl := Lib.hid (Nat.le_trans (join_le (tx kids p) sep hsep) (Nat.le_trans (lens1_tx kids p hvd) hwt))
  clear hat hn IHS hvd hwt hp hsep
  go_enter Tryz.func122, Tryz.ntmps122
  go_wp2_with fail
  go_loopw [7, 12] (fun ov iv wr => ∃ (q : Nat) (dn r : Fo) (A1 : Option Addr) (c1 : Nat), Hid (kids = dn.app r) ∧ Hid (dn.len = q) ∧ iv = .int .i64 q ∧ ov = .slice A1 q c1 ∧ wr.ownsRow w.heap.size 9 1 (.slice A1 q c1) q ((tx dn p).map strV) ∧ Below w.heap.size w wr) (fun _ iv _ => kids.len - (RowKit.intOf iv).toNat)
  case atStart => exact ⟨0, .nil, kids, none, 0, Lib.hid rfl, Lib.hid rfl, rfl, rfl, hown0, Below.refl _ _⟩
  case round =>
    obtain ⟨q, dn, r, A1, c1, hk, hq, rfl, rfl, hown, hb⟩ := hrel
    have hlen := Lib.hid (show kids.len = q + r.len by rw [hk.out, Fo.app_len, hq.out])
    have hws : w.heap.size ≤ wr.heap.size := hb.size
    cases r with
    | nil =>
      have hlt : ¬ (q : Int) < kids.len := by have := hlen.out; simp only [Fo.len] at this; omega
      have hkd := Lib.hid (show kids = dn by rw [hk.out, Fo.app_nil])
      have hql : q ≤ 1000000 := by have := hlen.out; simp only [Fo.len] at this; omega
      have hj := Lib.hid (join_own hown sep hql (by rw [← hkd.out]; exact Nat.le_trans hjl.out (by decide)))
      rw [← hkd.out] at hj
      go_wp2_with (go_at_call 128; (with_reducible refine (hj.out).mono ?_); rintro e w2 ⟨rfl, hb2⟩)
      go_ret
      exact ⟨rfl, hb.trans (hb2.mono hb.size)⟩
    | cons k1 l1 d1 mn1 mx1 r1 =>
      have hlt : (q : Int) < kids.len := by have := hlen.out; simp only [Fo.len] at this; omega
      have hq0 : (0 : Int) ≤ q := by omega
      have hql : q < 1000000 := by omega
      obtain ⟨b0, o0, hA0⟩ := Nd.first (a := ⟨0, ByteArray.empty, A, c, 0, 0, kids⟩) HA.out hk.out
      simp only at hA0
      subst hA0
      have h3 := HA.out.below hb
      rw [hk.out] at h3
      obtain ⟨K1, c2, hcel, hc3, hc4, hat1⟩ := h3.nth hq.out
      have hcel1 := hcel.1
      have hcel2 := hcel.2.1
      have hcel3 := hcel.2.2.1
      have hcel4 := hcel.2.2.2.1
      have hcel5 := hcel.2.2.2.2
      have hsz : d1.sz < n := by
        have h5 := congrArg Fo.sz hk.out
        rw [Fo.app_sz] at h5
        have h6 := HN.out
        simp only [Fo.sz] at h5
        omega
      have hvd1 : Vd (.cons k1 l1 d1 mn1 mx1 .nil) := by
        have h5 := HV.out
        rw [hk.out] at h5
        have h6 := Vd.app h5
        exact ⟨h6.1, h6.2.1, trivial⟩
      have hwt1 : (Fo.cons k1 l1 d1 mn1 mx1 .nil).wt ≤ 1000000 := by
        have h5 := congrArg Fo.wt hk.out
        rw [Fo.app_wt] at h5
        have h6 := HWT.out
        simp only [Fo.wt] at h5 ⊢
        omega
      have HC := Lib.hid (fun (w1 : World) (hb1 : Below wr.heap.size wr w1) => IH.out ⟨k1, l1, K1, c2, mn1, mx1, d1⟩ X p w1 hsz ⟨⟨hc3, hc4, hat1.below hb1⟩, hvd1, hwt1⟩ HP.out)
      unfold Nd.v at HC
      simp only at HC
      have htx := Lib.hid (show tx (dn.app (.cons k1 l1 d1 mn1 mx1 .nil)) p = tx dn p ++ [txN k1 l1 d1 mn1 mx1 p] by rw [tx_app]; rfl)
      generalize txN k1 l1 d1 mn1 mx1 p = z at *
      have hkk := Lib.hid (show kids = (dn.app (.cons k1 l1 d1 mn1 mx1 .nil)).app r1 by rw [hk.out, Fo.app_assoc]; rfl)
      have hqq := Lib.hid (show (dn.app (.cons k1 l1 d1 mn1 mx1 .nil)).len = q + 1 by rw [Fo.app_len, hq.out]; rfl)
      have HOW := Lib.hid (fun (w2 : World) (hb2 : Below wr.heap.size wr w2) => (own_below hown hb2 (Nat.le_refl _)).alloc (.cells #[strV z] 9))
      clear hsz hat1 hcel h3 hvd1 hwt1 hown
      go_wp2_with (first | (go_at_call 110; (with_reducible refine (HC.out _ (HB1.out _ _)).mono ?_); rintro e w2 ⟨rfl, hb2⟩; have hbx := Lib.hid ((HB1.out wr (.cells #[.int .i64 k1, .string l1, .slice K1 d1.len c2, .int .i64 mn1, .int .i64 mx1] 24)).trans (hb2.mono (HB1.out _ _).size)); have hownp := HOW.out w2 hbx.out; have hws2 : wr.heap.size ≤ w2.heap.size := hbx.out.size) | (refine wpList_append_reads _ strV (fun _ => rfl) 37 9 i9 _ 16 Tryz.underlying37 hi hz0 hz1 hz2 rfl rfl (.tmp 16) (.tmp 20) rfl w.heap.size _ q (tx dn p) rfl hownp _ _ 1 _ [z] rfl (Reads.lit1 strV _ z _) (by unfold maxLen; omega) (by omega) (by simp; omega) ?_; intro A5 n5 c5 w5 hn5 hc5 hown5 hb5; have hn6 := Lib.hid hn5.out; have hown6 := Lib.hid hown5; have hb6 := Lib.hid hb5; clear hown5 hb5))
      have hn7 := hn6.out
      subst hn7
      rw [← htx.out] at hown6
      exact ⟨⟨q + 1, dn.app (.cons k1 l1 d1 mn1 mx1 .nil), r1, A5, c5, hkk, hqq, by go_num, rfl, hown6.out, hb.trans ((hbx.out.mono hws).trans (((HB1.out w2 (.cells #[strV z] 9)).mono (Nat.le_trans hws hws2)).trans hb6.out))⟩, by simp [RowKit.intOf]; omega⟩
end Go.Proofs.YtpaehicfndkliaaGreatDoor.Pa
