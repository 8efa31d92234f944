import Derived.Test.YtpaehicfndkliaaGreatDoorQb
import Derived.Test.YtpaehicfndkliaaGreatDoorPt
import Derived.Deep.RegionHeld3
import Derived.Test.YtpaehicfndkliaaGreatDoorPR
import Derived.IntWalk

/- The walk of 'Unname'. Condition: a text of at most a million bytes. -/
namespace Go.Proofs.YtpaehicfndkliaaGreatDoor.Pa
open Go.RowKit Go.Lib Na Go.PN

theorem bareN_step (l : List UInt8) (k : Nat) (h : k < bareN l) : ∃ h2 : k < l.length, plainB (l[k]'h2) = true := by
  unfold bareN at h
  induction l generalizing k with
  | nil => simp at h
  | cons c l ih =>
    rw [List.takeWhile_cons] at h
    split at h
    · rename_i hc
      cases k with
      | zero => exact ⟨by simp, hc⟩
      | succ k =>
        obtain ⟨h2, h3⟩ := ih k (by simpa using h)
        exact ⟨by simpa using h2, h3⟩
    · simp at h
theorem bareN_stop (l : List UInt8) (h : bareN l < l.length) : plainB (l[bareN l]'h) = false := by
  unfold bareN at h ⊢
  induction l with
  | nil => simp at h
  | cons c l ih =>
    by_cases hc : plainB c = true
    · have e : (c :: l).takeWhile plainB = c :: l.takeWhile plainB := by rw [List.takeWhile_cons, if_pos hc]
      simp only [e, List.length_cons, List.getElem_cons_succ] at h ⊢
      exact ih (by omega)
    · have e : (c :: l).takeWhile plainB = [] := by rw [List.takeWhile_cons, if_neg hc]
      simp only [e, List.length_nil, List.getElem_cons_zero]
      simpa using hc
theorem ext_take (S : ByteArray) (k : Nat) : S.extract 0 k = ⟨(S.data.toList.take k).toArray⟩ := by
  apply ByteArray.ext
  rw [ByteArray.data_extract]
  exact Array.ext (by simp) (by intros; simp)
/-- What 'Unname' says. -/
def unV (r : Option (List UInt8 × List UInt8)) (size : Nat) : Value :=
  match r with
  | some (l, r) => .tuple #[strV l, .int .i64 (size - r.length : Nat)]
  | none => .tuple #[strV [], .int .i64 0]
set_option maxRecDepth 100000 in
set_option maxHeartbeats 4000000 in
theorem unname_bare (S : ByteArray) (w : World) (hS : S.size ≤ 1000000) (hb : 0 < bareN S.data.toList) :
    Calls Tryz.prog 130 #[.string S] w fun e w' => e = .returned (unV (nameR S.data.toList) S.size) ∧ w' = w := by
  have hsz : S.data.toList.length = S.size := by simp
  have hE := Lib.hid (show unV (nameR S.data.toList) S.size = .tuple #[.string (S.extract 0 (bareN S.data.toList)), .int .i64 (bareN S.data.toList : Nat)] by
    unfold nameR
    rw [if_pos hb]
    show Value.tuple #[strV _, .int .i64 ((S.size - (S.data.toList.drop (bareN S.data.toList)).length : Nat) : Int)] = _
    have := bareN_le S.data.toList
    rw [List.length_drop, hsz, show S.size - (S.size - bareN S.data.toList) = bareN S.data.toList from by omega, ext_take])
  have HST := Lib.hid (fun k h => bareN_step S.data.toList k h)
  have HSP := Lib.hid (bareN_stop S.data.toList)
  have hle := bareN_le S.data.toList
  rw [hsz] at hle
  have HZ := Lib.hid hsz
  generalize bareN S.data.toList = n at *
  clear hsz
  go_enter Tryz.func130, Tryz.ntmps130
  go_wp2_with fail
  go_loop [3] (fun iv => ∃ k : Nat, iv = .int .i64 k ∧ k ≤ n) (fun iv => n - (RowKit.intOf iv).toNat)
  case atStart => exact ⟨0, rfl, Nat.zero_le _⟩
  case round =>
    obtain ⟨k, rfl, hk⟩ := hrel
    have hk0 : (0 : Int) ≤ (k : Int) := by omega
    by_cases hlt : k < n
    · obtain ⟨h2, h3⟩ := HST.out k hlt
      have hks : k < S.size := by omega
      have tg : decide (k < S.size) = true := decide_eq_true hks
      have hks2 : (k : Int) < (S.size : Int) := by omega
      have hp := Lib.hid (fun w => plain_any (S[k]'hks) w)
      have h4 : plainB (S[k]'hks) = true := h3
      rw [h4] at hp
      clear h2 h3 h4
      go_wp2_with (go_at_call 127; (with_reducible refine (hp.out _).mono ?_); rintro e w2 ⟨rfl, rfl⟩)
      go_round
      case rel => exact ⟨k + 1, by go_num, by omega⟩
      case measure => simp [RowKit.intOf]; omega
    · have hkn : k = n := by omega
      subst hkn
      have tb : decide ((k : Int) > 0) = true := decide_eq_true (by omega)
      have tb2 : decide (0 < k) = true := decide_eq_true (by omega)
      by_cases hks : k < S.size
      · have tg : decide (k < S.size) = true := decide_eq_true hks
        have hks2 : (k : Int) < (S.size : Int) := by omega
        have hp := Lib.hid (fun w => plain_any (S[k]'hks) w)
        have h4 : plainB (S[k]'hks) = false := HSP.out (by rw [HZ.out]; exact hks)
        rw [h4] at hp
        clear h4
        go_wp2_with (go_at_call 127; (with_reducible refine (hp.out _).mono ?_); rintro e w2 ⟨rfl, rfl⟩)
        go_ret2
        exact ⟨by rw [hE.out]; rfl, rfl⟩
      · have tg : decide (k < S.size) = false := decide_eq_false hks
        go_wp2_with fail
        go_ret2
        exact ⟨by rw [hE.out]; rfl, rfl⟩
theorem nameR_none (l : List UInt8) (hb : bareN l = 0) (h : l.head? ≠ some 60) : nameR l = none := by
  unfold nameR
  rw [if_neg (by omega)]
  cases l with
  | nil => rfl
  | cons c u => simp only; rw [if_neg (by intro e; subst e; exact h rfl)]
theorem nameR_esc (u : List UInt8) : nameR (60 :: u) = match escR u with
    | some r => if nameT r.1 ++ r.2 = 60 :: u then some r else none
    | none => none := by
  have hb : bareN (60 :: u) = 0 := by unfold bareN; rw [List.takeWhile_cons, if_neg (by decide)]; rfl
  unfold nameR
  rw [if_neg (by omega)]
  simp only [if_true]
  cases escR u <;> rfl
theorem bareN_zero (c : UInt8) (u : List UInt8) (h : bareN (c :: u) = 0) : plainB c = false := by
  unfold bareN at h
  rw [List.takeWhile_cons] at h
  split at h
  · simp at h
  · rename_i h2; simpa using h2
set_option maxRecDepth 100000 in
set_option maxHeartbeats 4000000 in
theorem unname_none (S : ByteArray) (w : World) (hS : S.size ≤ 1000000) (hb : bareN S.data.toList = 0) (hh : S.data.toList.head? ≠ some 60) :
    Calls Tryz.prog 130 #[.string S] w fun e w' => e = .returned (unV (nameR S.data.toList) S.size) ∧ w' = w := by
  have hsz : S.data.toList.length = S.size := by simp
  have hE := Lib.hid (show unV (nameR S.data.toList) S.size = .tuple #[.string ByteArray.empty, .int .i64 0] by
    rw [nameR_none _ hb hh]; rfl)
  generalize unV (nameR S.data.toList) S.size = V at *
  by_cases h0 : S.size = 0
  · have tg : decide (0 < S.size) = false := decide_eq_false (by omega)
    have te : S.toList = [] := by rw [ByteArray.toList_eq]; exact List.eq_nil_of_length_eq_zero (by omega)
    have te2 : S.toList.isEmpty = true := by rw [te]; rfl
    clear hb hh hsz
    go_enter Tryz.func130, Tryz.ntmps130
    go_wp2_with fail
    go_loop [3] (fun iv => iv = .int .i64 0) (fun _ => 0)
    case atStart => rfl
    case round =>
      subst hrel
      go_wp2_with fail
      go_ret2
      exact ⟨by rw [hE.out]; rfl, rfl⟩
  · have hlt : 0 < S.size := by omega
    have tg : decide (0 < S.size) = true := decide_eq_true hlt
    have tg2 : (0 : Int) < (S.size : Int) := by omega
    have hne : S.data.toList = S[0]'hlt :: S.data.toList.drop 1 := by
      have h1 : 0 < S.data.toList.length := by omega
      have := List.drop_eq_getElem_cons h1
      exact this
    have te : S.toList.isEmpty = false := by rw [ByteArray.toList_eq, hne]; rfl
    have hp := Lib.hid (fun w => plain_any (S[0]'hlt) w)
    rw [hne] at hb hh
    rw [bareN_zero _ _ hb] at hp
    have t60 : (((S[0]'hlt).toNat : Int) == 60) = false := by
      rw [beq_eq_false_iff_ne]
      intro e
      exact hh (congrArg some (UInt8.toNat_inj.1 (show (S[0]'hlt).toNat = (60 : UInt8).toNat by have : (60 : UInt8).toNat = 60 := rfl; omega)))
    have t60n : (((S[0]'hlt).toNat : Int) != 60) = true := by rw [bne, t60]; rfl
    clear hb hh hsz hne
    go_enter Tryz.func130, Tryz.ntmps130
    go_wp2_with fail
    go_loop [3] (fun iv => iv = .int .i64 0) (fun _ => 0)
    case atStart => rfl
    case round =>
      subst hrel
      go_wp2_with (go_at_call 127; (with_reducible refine (hp.out _).mono ?_); rintro e w2 ⟨rfl, rfl⟩)
      go_ret2
      exact ⟨by rw [hE.out]; rfl, rfl⟩
end Go.Proofs.YtpaehicfndkliaaGreatDoor.Pa


/- The walk of 'Unname': of a name in angle brackets. Condition: a text of at most a million bytes. -/
namespace Go.Proofs.YtpaehicfndkliaaGreatDoor.Pa
open Go.RowKit Go.Lib Na Go.PN

theorem hex_ix (c : UInt8) : Lib.indexByte [48, 49, 50, 51, 52, 53, 54, 55, 56, 57, 97, 98, 99, 100, 101, 102] c = match hexV c with | some x => (x : Int) | none => -1 := by
  have key : ∀ c : Fin 256, Lib.indexByte [48, 49, 50, 51, 52, 53, 54, 55, 56, 57, 97, 98, 99, 100, 101, 102] (UInt8.ofNat c.val) = match hexV (UInt8.ofNat c.val) with | some x => (x : Int) | none => -1 := by decide +kernel
  have := key ⟨c.toNat, c.toNat_lt⟩
  rwa [UInt8.ofNat_toNat] at this
theorem hexV_lt {c : UInt8} {x : Nat} (h : hexV c = some x) : x < 16 := by
  unfold hexV at h
  split at h
  · injection h with h; omega
  · split at h
    · injection h with h; omega
    · cases h
theorem ix_any (c : UInt8) (w : World) (V : Int) (hV : V = match hexV c with | some x => (x : Int) | none => -1) : Calls Tryz.prog 136 #[.string ⟨#[48, 49, 50, 51, 52, 53, 54, 55, 56, 57, 97, 98, 99, 100, 101, 102]⟩, .int .u8 (c.toNat : Int)] w fun e w' => e = .returned (.int .i64 V) ∧ w' = w := by
  have h := Tryz.strings_IndexByte ⟨#[48, 49, 50, 51, 52, 53, 54, 55, 56, 57, 97, 98, 99, 100, 101, 102]⟩ (c.toNat : Int) w
  have e : (c.toNat : Int).toNat.toUInt8 = c := by
    rw [Int.toNat_natCast]; exact UInt8.ofNat_toNat
  rw [e] at h
  rw [hV, ← hex_ix]
  exact h
/-- The pieces of a name so far. -/
structure Esc (l : List UInt8) (k : Nat) (o : List UInt8) : Prop where
  k1 : 1 ≤ k
  kl : k ≤ l.length
  ol : o.length ≤ k
  eq : escR (l.drop 1) = (escR (l.drop k)).map fun x => (o ++ x.1, x.2)
theorem Esc.start (u : List UInt8) : Esc (60 :: u) 1 [] := ⟨by omega, by simp, by simp, by
  cases h : escR ((60 :: u).drop 1) <;> simp⟩
theorem Esc.one {l : List UInt8} {k : Nat} {o t : List UInt8} {c : UInt8} (h : Esc l k o) (ht : l.drop k = c :: t) (h1 : c ≠ 62) (h2 : c ≠ 92) : Esc l (k + 1) (o ++ [c]) := by
  have hl := congrArg List.length ht
  rw [List.length_drop, List.length_cons] at hl
  refine ⟨by omega, by omega, by have := h.ol; simp; omega, ?_⟩
  rw [h.eq, ht, escR_one c t h1 h2, drop_next ht]
  cases escR t <;> simp
theorem Esc.hex {l : List UInt8} {k : Nat} {o t : List UInt8} {a b : UInt8} {x y : Nat} (h : Esc l k o) (ht : l.drop k = 92 :: a :: b :: t) (ha : hexV a = some x) (hb : hexV b = some y) : Esc l (k + 3) (o ++ [UInt8.ofNat (x * 16 + y)]) := by
  have hl := congrArg List.length ht
  rw [List.length_drop, List.length_cons, List.length_cons, List.length_cons] at hl
  refine ⟨by omega, by omega, by have := h.ol; simp; omega, ?_⟩
  have h3 : l.drop (k + 3) = t := drop_next (drop_next (drop_next ht))
  rw [h.eq, ht, escR_hex, ha, hb, h3]
  cases escR t <;> simp
theorem Esc.no {u : List UInt8} {k : Nat} {o : List UInt8} (h : Esc (60 :: u) k o) (ht : escR ((60 :: u).drop k) = none) : nameR (60 :: u) = none := by
  rw [nameR_esc]
  have := h.eq
  rw [ht] at this
  have h2 : escR u = none := this
  rw [h2]
theorem Esc.fin {u : List UInt8} {k : Nat} {o t : List UInt8} (h : Esc (60 :: u) k o) (ht : (60 :: u).drop k = 62 :: t) : nameR (60 :: u) = if nameT o = (60 :: u).take (k + 1) then some (o, t) else none := by
  rw [nameR_esc]
  have := h.eq
  rw [ht, escR_end] at this
  have h2 : escR u = some (o, t) := by simpa using this
  rw [h2]
  simp only
  have h3 : (60 :: u).drop (k + 1) = t := drop_next ht
  have h4 : (60 :: u).take (k + 1) ++ t = 60 :: u := by rw [← h3]; exact List.take_append_drop _ _
  by_cases e : nameT o = (60 :: u).take (k + 1)
  · rw [if_pos e, e, if_pos h4]
  · rw [if_neg e, if_neg]
    intro h5
    exact e (List.append_cancel_right (h5.trans h4.symm))
theorem or_hex (x y : Nat) (hx : x < 16) (hy : y < 16) : bits BinOp.or IntKind.i64 ((x : Int) * 16) (y : Int) = ((x * 16 + y : Nat) : Int) := by
  have key : ∀ (x y : Fin 16), bits BinOp.or IntKind.i64 ((x.val : Int) * 16) (y.val : Int) = ((x.val * 16 + y.val : Nat) : Int) := by decide +kernel
  exact key ⟨x, hx⟩ ⟨y, hy⟩
set_option maxRecDepth 100000 in
set_option maxHeartbeats 8000000 in
theorem unname_esc (S : ByteArray) (u0 : List UInt8) (w : World) (hS : S.size ≤ 1000000) (hl0 : S.data.toList = 60 :: u0) :
    Calls Tryz.prog 130 #[.string S] w fun e w' => e = .returned (unV (nameR S.data.toList) S.size) ∧ Below w.heap.size w w' := by
  obtain ⟨i5, hi, hz0, hz1, hz2⟩ := i5
  have hsz : S.data.toList.length = S.size := by simp
  have HZ := Lib.hid hsz
  have HL := Lib.hid hl0
  have hlt : 0 < S.size := by rw [← hsz, hl0]; simp
  have tg : decide (0 < S.size) = true := decide_eq_true hlt
  have tg2 : (0 : Int) < (S.size : Int) := by omega
  have te : S.toList.isEmpty = false := by rw [ByteArray.toList_eq, hl0]; rfl
  have h60 : (S[0]'hlt) = 60 := by
    have h1 : 0 < S.data.toList.length := by omega
    have h2 := List.drop_eq_getElem_cons h1
    rw [List.drop_zero] at h2
    have h3 : S.data.toList = S[0]'hlt :: S.data.toList.drop 1 := h2
    rw [hl0] at h3
    injection h3 with h3
    exact h3.symm
  have t60 : ((S[0]'hlt).toNat : Int) = 60 := by rw [h60]; rfl
  have hp : Hid (∀ w, Calls Tryz.prog 127 #[.int .u8 60] w fun e w' => e = .returned (.bool false) ∧ w' = w) := fun w => plain_any 60 w
  have HV : ∃ V, V = unV (nameR S.data.toList) S.size := ⟨_, rfl⟩
  obtain ⟨V, hV⟩ := HV
  rw [← hV]
  have HV := Lib.hid hV
  have HE0 := Lib.hid (show Esc S.data.toList 1 [] by rw [hl0]; exact Esc.start u0)
  have hown0 := World.ownsRow_nil w w.heap.size 5 1
  clear hV hl0 hsz h60
  go_enter Tryz.func130, Tryz.ntmps130
  go_wp2_with fail
  go_loop [3] (fun iv => iv = .int .i64 0) (fun _ => 0)
  case atStart => rfl
  case round =>
    subst hrel
    go_wp2_with (go_at_call 127; (with_reducible refine (hp.out _).mono ?_); rintro e w2 ⟨rfl, rfl⟩)
    go_loopw [3, 4, 5, 6] (fun iv ov _ _ wr => ∃ (k : Nat) (o : List UInt8) (A : Option Addr) (n c : Nat), iv = .int .i64 k ∧ ov = .slice A n c ∧ k ≤ S.size ∧ n ≤ k ∧ 1 ≤ k ∧ wr.ownsRow w2.heap.size 5 1 (.slice A n c) n (o.map bv) ∧ Hid (Esc S.data.toList k o) ∧ Below w2.heap.size w2 wr) (fun iv _ _ _ _ => S.size - (RowKit.intOf iv).toNat)
    case atStart => exact ⟨1, [], none, 0, 0, rfl, rfl, by omega, by omega, by omega, hown0, HE0, Below.refl _ _⟩
    case round =>
      obtain ⟨k, o, A, n, c, rfl, rfl, hk, hnk, hk1, hown, hE, hb⟩ := hrel
      have hws : w2.heap.size ≤ wr.heap.size := hb.size
      rcases ht : S.data.toList.drop k with _ | ⟨b, t⟩
      · have hks := drop_end ht
        obtain rfl : k = S.size := by omega
        have tk : decide (S.size < S.size) = false := decide_eq_false (by omega)
        have hVn := Lib.hid (show V = .tuple #[strV [], .int .i64 0] by
          rw [HV.out, HL.out, Esc.no (k := S.size) (o := o) (by rw [← HL.out]; exact hE.out) (by rw [← HL.out, ht]; rfl)]; rfl)
        clear ht
        go_wp2_with fail
        go_quiet (fail)
        go_wp2_with fail
        go_ret2
        exact ⟨by rw [hVn.out]; rfl, hb.trans (below_drewN _ _ _)⟩
      · obtain ⟨hki, hbk⟩ := drop_get ht
        have tk : decide (k < S.size) = true := decide_eq_true hki
        have hk0 : (0 : Int) ≤ (k : Int) := by omega
        have hk2 : (k : Int) < (S.size : Int) := by omega
        have HT := Lib.hid ht
        have HB := Lib.hid hbk
        clear ht hbk
        have HC := Lib.hid (fun (w' : World) (hb' : Below wr.heap.size wr w') => conv_u8 (c := c) (Reads.of_own (own_below hown hb' (Nat.le_refl _))))
        by_cases hb62 : b = 62
        · have t62 : ((S[k]'hki).toNat : Int) = 62 := by rw [HB.out, hb62]; rfl
          subst hb62
          have tq : (k == S.size) = false := by rw [beq_eq_false_iff_ne]; omega
          have tq2 : ((k : Int) == (S.size : Int)) = false := by rw [beq_eq_false_iff_ne]; omega
          have hw1 : IntKind.i64.wrap ((k : Int) + 1) = (k : Int) + 1 := IntWalk.i64_in _ (by omega)
          have hw2 : (0 : Int) ≤ (k : Int) + 1 := by omega
          have hw3 : ((k : Int) + 1).toNat = k + 1 := by omega
          have hw4 : (k : Int) + 1 ≤ (S.size : Int) := by omega
          have HN : Hid (∀ w1 : World, Calls Tryz.prog 121 #[.string ⟨o.toArray⟩] w1 fun e w' => e = .returned (strV (nameT o)) ∧ Below w1.heap.size w1 w') := fun w1 => name_any ⟨o.toArray⟩ w1 (by have := hE.out.ol; show o.toArray.size ≤ _; rw [List.size_toArray]; omega)
          have hfin := Esc.fin (u := u0) (k := k) (o := o) (t := t) (by rw [← HL.out]; exact hE.out) (by rw [← HL.out]; exact HT.out)
          rw [← HL.out] at hfin
          have htl : S.size - t.length = k + 1 := by
            have := congrArg List.length HT.out
            rw [List.length_drop, HZ.out, List.length_cons] at this
            omega
          by_cases hn : nameT o = S.data.toList.take (k + 1)
          · have tX : (nameT o == (S.extract 0 (k + 1)).toList) = true := by
              rw [ByteArray.toList_eq, ext_take, hn]; exact beq_self_eq_true _
            have hVn := Lib.hid (show V = .tuple #[strV o, .int .i64 ((k : Int) + 1)] by
              rw [HV.out, hfin, if_pos hn]; show Value.tuple #[strV o, .int .i64 ((S.size - t.length : Nat) : Int)] = _; rw [htl]; rfl)
            clear hn hfin htl
            go_wp2_with fail
            go_region_held3 (fun w' => (convert 127 9 (.slice A n c)).run Tryz.prog w' = .ok (.string ⟨o.toArray⟩) w') (first | exact HC.out _ (Below.refl _ _) | exact HC.out _ (Below.refl _ _).drew | exact HC.out _ hb3) (first | (go_at_call 121; (with_reducible refine (HN.out _).mono ?_); rintro e w3 ⟨rfl, hb3⟩; have hb3 := (Below.refl wr.heap.size wr).drew.trans (hb3.mono (Below.refl wr.heap.size wr).drew.size)))
            all_goals
              have hcv := HC.out _ hb3
              go_wp2_with fail
              go_ret2
              exact ⟨by rw [hVn.out]; rfl, hb.trans (hb3.mono hws)⟩
          · have tX : (nameT o == (S.extract 0 (k + 1)).toList) = false := by
              rw [ByteArray.toList_eq, ext_take, beq_eq_false_iff_ne]
              intro e; exact hn (by simpa using e)
            have hVn := Lib.hid (show V = .tuple #[strV [], .int .i64 0] by
              rw [HV.out, hfin, if_neg hn]; rfl)
            clear hn hfin htl
            go_wp2_with fail
            go_region_held3 (fun w' => (convert 127 9 (.slice A n c)).run Tryz.prog w' = .ok (.string ⟨o.toArray⟩) w') (first | exact HC.out _ (Below.refl _ _) | exact HC.out _ (Below.refl _ _).drew | exact HC.out _ hb3) (first | (go_at_call 121; (with_reducible refine (HN.out _).mono ?_); rintro e w3 ⟨rfl, hb3⟩; have hb3 := (Below.refl wr.heap.size wr).drew.trans (hb3.mono (Below.refl wr.heap.size wr).drew.size)))
            all_goals
              go_wp2_with fail
              go_ret2
              exact ⟨by rw [hVn.out]; rfl, hb.trans (hb3.mono hws)⟩
        · have t62 : (((S[k]'hki).toNat : Int) != 62) = true := by
            rw [HB.out, bne_iff_ne]; intro e
            exact hb62 (UInt8.toNat_inj.1 (by have : (62 : UInt8).toNat = 62 := rfl; omega))
          have t62b : (((S[k]'hki).toNat : Int) == 62) = false := by rw [bne, Bool.not_eq_true'] at t62; exact t62
          by_cases hb92 : b = 92
          · have t92 : (((S[k]'hki).toNat : Int) != 92) = false := by rw [HB.out, hb92]; rfl
            have t92b : (((S[k]'hki).toNat : Int) == 92) = true := by rw [HB.out, hb92]; rfl
            subst hb92
            rcases t with _ | ⟨x, t⟩
            · have hks : k + 1 = S.size := by
                have := congrArg List.length HT.out
                rw [List.length_drop, HZ.out] at this
                simp at this; omega
              have tk2 : decide ((k : Int) + 2 ≥ (S.size : Int)) = true := decide_eq_true (by omega)
              have tk3 : decide (S.size ≤ k + 2) = true := decide_eq_true (by omega)
              have hVn := Lib.hid (show V = .tuple #[strV [], .int .i64 0] by
                rw [HV.out, HL.out, Esc.no (k := k) (o := o) (by rw [← HL.out]; exact hE.out) (by rw [← HL.out, HT.out]; rfl)]; rfl)
              clear hb62
              go_wp2_with fail
              go_ret2
              exact ⟨by rw [hVn.out]; rfl, hb⟩
            rcases t with _ | ⟨y, t⟩
            · have hks : k + 2 = S.size := by
                have := congrArg List.length HT.out
                rw [List.length_drop, HZ.out] at this
                simp at this; omega
              have tk2 : decide ((k : Int) + 2 ≥ (S.size : Int)) = true := decide_eq_true (by omega)
              have tk3 : decide (S.size ≤ k + 2) = true := decide_eq_true (by omega)
              have hVn := Lib.hid (show V = .tuple #[strV [], .int .i64 0] by
                rw [HV.out, HL.out, Esc.no (k := k) (o := o) (by rw [← HL.out]; exact hE.out) (by rw [← HL.out, HT.out]; rfl)]; rfl)
              clear hb62
              go_wp2_with fail
              go_ret2
              exact ⟨by rw [hVn.out]; rfl, hb⟩
            have hlen : k + 3 ≤ S.size := by
              have := congrArg List.length HT.out
              rw [List.length_drop, HZ.out] at this
              simp at this; omega
            have tk2 : decide ((k : Int) + 2 ≥ (S.size : Int)) = false := decide_eq_false (by omega)
            have tk3 : decide (S.size ≤ k + 2) = false := decide_eq_false (by omega)
            have d1 := drop_next HT.out
            have d2 := drop_next d1
            obtain ⟨hk1', ea⟩ := drop_get d1
            obtain ⟨hk2', eb⟩ := drop_get d2
            clear d1 d2
            have hw1 : IntKind.i64.wrap ((k : Int) + 1) = (k : Int) + 1 := IntWalk.i64_in _ (by omega)
            have hw2 : (0 : Int) ≤ (k : Int) + 1 := by omega
            have hw3 : ((k : Int) + 1).toNat = k + 1 := by omega
            have hw4 : (k : Int) + 1 < (S.size : Int) := by omega
            have hv1 : IntKind.i64.wrap ((k : Int) + 2) = (k : Int) + 2 := IntWalk.i64_in _ (by omega)
            have hv2 : (0 : Int) ≤ (k : Int) + 2 := by omega
            have hv3 : ((k : Int) + 2).toNat = k + 2 := by omega
            have hv4 : (k : Int) + 2 < (S.size : Int) := by omega
            have hxa : ((S[k + 1]'hk1').toNat : Int) = (x.toNat : Int) := by rw [ea]
            have hxb : ((S[k + 2]'hk2').toNat : Int) = (y.toNat : Int) := by rw [eb]
            have hxa2 : (S[k + 1]'hk1').toNat = x.toNat := by rw [ea]
            have hxb2 : (S[k + 2]'hk2').toNat = y.toNat := by rw [eb]
            have ixa := Lib.hid (fun w => ix_any x w _ rfl)
            have ixb := Lib.hid (fun w => ix_any y w _ rfl)
            clear ea eb
            rcases hva : hexV x with _ | vx
            · rw [hva] at ixa
              simp only at ixa
              generalize (match hexV y with | some x => (x : Int) | none => -1) = VY at ixb
              have hVn := Lib.hid (show V = .tuple #[strV [], .int .i64 0] by
                rw [HV.out, HL.out, Esc.no (k := k) (o := o) (by rw [← HL.out]; exact hE.out) (by rw [← HL.out, HT.out, escR_hex, hva])]; rfl)
              clear hb62
              go_wp2_with fail
              go_quiet ((first | (go_at_call 136; (with_reducible exact Calls.quiet_of_same (ixa.out _))) | (go_at_call 136; (with_reducible exact Calls.quiet_of_same (ixb.out _)))))
              go_wp2_with fail
              go_ret2
              exact ⟨by rw [hVn.out]; rfl, hb.trans (below_drewN _ _ _)⟩
            rcases hvb : hexV y with _ | vy
            · rw [hva] at ixa
              rw [hvb] at ixb
              simp only at ixa ixb
              have hx1 := hexV_lt hva
              have tx1 : decide ((vx : Int) < 0) = false := decide_eq_false (by omega)
              have hVn := Lib.hid (show V = .tuple #[strV [], .int .i64 0] by
                rw [HV.out, HL.out, Esc.no (k := k) (o := o) (by rw [← HL.out]; exact hE.out) (by rw [← HL.out, HT.out, escR_hex, hva, hvb])]; rfl)
              clear hb62
              go_wp2_with fail
              go_quiet ((first | (go_at_call 136; (with_reducible exact Calls.quiet_of_same (ixa.out _))) | (go_at_call 136; (with_reducible exact Calls.quiet_of_same (ixb.out _)))))
              go_wp2_with fail
              go_ret2
              exact ⟨by rw [hVn.out]; rfl, hb.trans (below_drewN _ _ _)⟩
            rw [hva] at ixa
            rw [hvb] at ixb
            simp only at ixa ixb
            have hx1 := hexV_lt hva
            have hy1 := hexV_lt hvb
            have tx1 : decide ((vx : Int) < 0) = false := decide_eq_false (by omega)
            have ty1 : decide ((vy : Int) < 0) = false := decide_eq_false (by omega)
            have hE2 := Lib.hid (hE.out.hex HT.out hva hvb)
            have hor := or_hex vx vy hx1 hy1
            have hvx0 : (0 : Int) ≤ (vx : Int) := by omega
            have hvx1 : (vx : Int) < 16 := by omega
            have hvy0 : (0 : Int) ≤ (vy : Int) := by omega
            have hvy1 : (vy : Int) < 16 := by omega
            clear hva hvb hb62
            go_wp2_with fail
            go_quiet ((first | (go_at_call 136; (with_reducible exact Calls.quiet_of_same (ixa.out _))) | (go_at_call 136; (with_reducible exact Calls.quiet_of_same (ixb.out _)))))
            have hbvv : Value.int .u8 ((vx : Int) * 16 + vy) = bv (UInt8.ofNat (vx * 16 + vy)) := by
              show _ = Value.int .u8 (((UInt8.ofNat (vx * 16 + vy)).toNat : Nat) : Int)
              rw [UInt8.toNat_ofNat_of_lt' (by show vx * 16 + vy < 256; omega)]; rfl
            have HRD := Lib.hid (Reads.lit1 bv (wr.drewN nq) (UInt8.ofNat (vx * 16 + vy)) 5)
            have hownp := Lib.hid ((own_below hown (below_drewN wr.heap.size wr nq) (Nat.le_refl _)).alloc (.cells #[bv (UInt8.ofNat (vx * 16 + vy))] 5))
            have HA := Lib.hid ((below_drewN w2.heap.size wr nq).alloc (show w2.heap.size ≤ (wr.drewN nq).heap.size from hws) (.cells #[bv (UInt8.ofNat (vx * 16 + vy))] 5))
            rw [← hbvv] at HRD hownp HA
            clear hbvv hown
            generalize UInt8.ofNat (vx * 16 + vy) = bb at *
            go_wp2_with ((refine wpList_append_reads _ bv (fun _ => rfl) 127 5 i5 _ 1 Tryz.underlying127 hi hz0 hz1 hz2 rfl rfl (.tmp 77) (.tmp 83) rfl w2.heap.size _ n o rfl hownp.out _ _ 1 _ [bb] rfl HRD.out (by unfold maxLen; omega) (by omega) (by simp; omega) ?_; intro A5 n5 c5 w5 hn5 hc5 hown5 hb5; have hn6 := Lib.hid hn5.out; have hown6 := Lib.hid hown5; have hb6 := Lib.hid (HA.out.trans hb5); clear hown5 hb5))
            obtain rfl := hn6.out
            exact ⟨⟨k + 3, o ++ [bb], A5, n + 1, c5, by go_num, rfl, by omega, by omega, by omega, hown6.out, hE2, hb.trans hb6.out⟩, by simp [RowKit.intOf]; omega⟩
          · have t92 : (((S[k]'hki).toNat : Int) != 92) = true := by
              rw [HB.out, bne_iff_ne]; intro e
              exact hb92 (UInt8.toNat_inj.1 (by have : (92 : UInt8).toNat = 92 := rfl; omega))
            have t92b : (((S[k]'hki).toNat : Int) == 92) = false := by rw [bne, Bool.not_eq_true'] at t92; exact t92
            have hE2 := Lib.hid (hE.out.one HT.out hb62 hb92)
            have hxb : bv (S[k]'hki) = bv b := by rw [HB.out]
            have hownp : (wr.alloc (Obj.cells #[bv (S[k]'hki)] 5)).ownsRow w2.heap.size 5 1 (.slice A n c) n (o.map bv) := hown.alloc _
            have HBE := Lib.hid (show o ++ [S[k]'hki] = o ++ [b] by rw [HB.out])
            have HA := Lib.hid ((Below.refl w2.heap.size wr).alloc hws (.cells #[bv (S[k]'hki)] 5))
            clear hb62 hb92 hxb hown
            go_wp2_with ((refine wpList_append_reads _ bv (fun _ => rfl) 127 5 i5 _ 1 Tryz.underlying127 hi hz0 hz1 hz2 rfl rfl (.tmp 50) (.tmp 54) rfl w2.heap.size _ n o rfl hownp _ _ 1 _ [S[k]'hki] rfl (Reads.lit1 bv _ (S[k]'hki) _) (by unfold maxLen; omega) (by omega) (by simp; omega) ?_; intro A5 n5 c5 w5 hn5 hc5 hown5 hb5; have hn6 := Lib.hid hn5.out; have hown6 := Lib.hid hown5; have hb6 := Lib.hid (HA.out.trans hb5); clear hown5 hb5))
            obtain rfl := hn6.out
            exact ⟨⟨k + 1, o ++ [b], A5, n + 1, c5, by go_num, rfl, by omega, by omega, by omega, HBE.out ▸ hown6.out, hE2, hb.trans hb6.out⟩, by simp [RowKit.intOf]; omega⟩
end Go.Proofs.YtpaehicfndkliaaGreatDoor.Pa


/- The walks of 'Unname', of the reader's 'name'. Condition: a text of at most a million bytes; the reader lies in memory. -/
namespace Go.Proofs.YtpaehicfndkliaaGreatDoor.Pa
open Go.RowKit Go.Lib Na Go.PN

theorem unname_any (S : ByteArray) (w : World) (hS : S.size ≤ 1000000) : Calls Tryz.prog 130 #[.string S] w fun e w' => e = .returned (unV (nameR S.data.toList) S.size) ∧ Below w.heap.size w w' := by
  by_cases hb : 0 < bareN S.data.toList
  · exact (unname_bare S w hS hb).mono fun e w' h => ⟨h.1, by rw [h.2]; exact Below.refl _ _⟩
  · by_cases hh : S.data.toList.head? = some 60
    · rcases hl : S.data.toList with _ | ⟨c, u⟩
      · rw [hl] at hh; cases hh
      · have : c = 60 := by rw [hl] at hh; exact Option.some.inj hh
        subst this
        rw [← hl]
        exact unname_esc S u w hS hl
    · exact (unname_none S w hS (by omega) hh).mono fun e w' h => ⟨h.1, by rw [h.2]; exact Below.refl _ _⟩
theorem ext_drop (S : ByteArray) (k : Nat) : S.extract k S.size = ⟨(S.data.toList.drop k).toArray⟩ := by
  apply ByteArray.ext
  rw [ByteArray.data_extract]
  exact Array.ext (by simp) (by intros; simp)
/-- What a reader of names does. -/
def NameRd (R : Nat) (s : ByteArray) (d : Int) (t : List UInt8) (w : World) (e : Ending) (w' : World) : Prop :=
  match nameR t with
  | some (l, u) => e = .returned (strV l) ∧ Kp [R] w w' ∧ RS w' R s (s.size - u.length : Nat) d
  | none => Left R w e w'
set_option maxRecDepth 100000 in
set_option maxHeartbeats 4000000 in
theorem name_rd (R : Nat) (s : ByteArray) (i : Nat) (d : Int) (t : List UInt8) (w : World) (h : RS w R s i d) (ht : s.data.toList.drop i = t) (hi : i ≤ s.size) (hm : s.size ≤ 1000000) :
    Calls Tryz.prog 125 #[.pointer (some ⟨R, 0, none⟩)] w (NameRd R s d t w) := by
  have hsz : s.data.toList.length = s.size := by simp
  have htl : t.length = s.size - i := by rw [← ht, List.length_drop, hsz]
  have hex : (s.extract i s.size).data.toList = t := by rw [ext_drop, ht]
  have hexz : (s.extract i s.size).size = s.size - i := by
    rw [← htl, ← hex]; simp
  have HU := Lib.hid (fun w => unname_any (s.extract i s.size) w (by omega))
  rw [hex, hexz] at HU
  have h0 := h.c0
  have h1 := h.c1
  have HR := Lib.hid h
  have hi1 : (0 : Int) ≤ (i : Int) := by omega
  have hi2 : (i : Int) ≤ (s.size : Int) := by omega
  have hlt := h.lt
  cases hn : nameR t with
  | none =>
    rw [hn] at HU
    have HB := Lib.hid (fun (w1 : World) (hb : Below w.heap.size w w1) => bad_any R s i d w1 (HR.out.below hb))
    have HP := Lib.hid (show NameRd R s d t w = Left R w by unfold NameRd; rw [hn])
    rw [HP.out]
    clear hn ht hsz htl hex hexz h HP
    unfold unV at HU
    simp only at HU
    go_enter Tryz.func125, Tryz.ntmps125
    go_wp2_with fail
    go_region_held3 (fun w' => w'.cell? ⟨R, 0, none⟩ = some (.string s) ∧ w'.cell? ⟨R, 1, none⟩ = some (.int .i64 i)) (first | exact ⟨h0, h1⟩ | exact ⟨F1.c0, F1.c1⟩) (first | (go_at_call 130; (with_reducible refine (HU.out _).mono ?_); rintro e w3 ⟨rfl, hb3⟩; have hb3 := (Below.refl w.heap.size w).drew.trans (hb3.mono (Below.refl w.heap.size w).drew.size); have F1 := HR.out.below hb3))
    all_goals
      go_wp2_with (go_at_call 106; (with_reducible refine (HB.out _ hb3).mono ?_); rintro e w' ⟨b, x, rfl, hl1, hl2, hl3, hl4⟩)
      exact ⟨rfl, b, x, rfl, hl1, hl2, Nat.le_trans hb3.size hl3, (Kp.of_below hb3).trans hl4⟩
  | some r =>
    obtain ⟨l, u⟩ := r
    rw [hn] at HU
    obtain ⟨p, hp, hp1⟩ := nameR_suf t _ hn
    have hpl := congrArg List.length hp
    rw [List.length_append] at hpl
    simp only at hpl
    have HP := Lib.hid (show ∀ e w', (e = .returned (strV l) ∧ Kp [R] w w' ∧ RS w' R s (s.size - u.length : Nat) d) → NameRd R s d t w e w' from fun e w' h => by unfold NameRd; rw [hn]; exact h)
    unfold unV at HU
    simp only at HU
    obtain ⟨n, hnn⟩ : ∃ n, s.size - i - u.length = n := ⟨_, rfl⟩
    have hn1 : 1 ≤ n := by omega
    have hn2 : i + n ≤ s.size := by omega
    have hn3 : s.size - u.length = i + n := by omega
    rw [hnn] at HU
    rw [hn3] at HP
    have tn : (((n : Nat) : Int) == 0) = false := by rw [beq_eq_false_iff_ne]; omega
    have tn2 : n ≠ 0 := by omega
    have hn4 : (0 : Int) ≤ (n : Int) := by omega
    have hn5 : (i : Int) + (n : Int) ≤ 1000000 := by omega
    refine Calls.mono (R := fun e w' => e = .returned (strV l) ∧ Kp [R] w w' ∧ RS w' R s (i + n : Nat) d) ?_ (fun e w' h => HP.out e w' h)
    clear hn ht hsz htl hex hexz h HP hp hpl hnn hn3 hp1 tn2
    go_enter Tryz.func125, Tryz.ntmps125
    go_wp2_with fail
    go_region_held3 (fun w' => w'.cell? ⟨R, 0, none⟩ = some (.string s) ∧ w'.cell? ⟨R, 1, none⟩ = some (.int .i64 i)) (first | exact ⟨h0, h1⟩ | exact ⟨F1.c0, F1.c1⟩) (first | (go_at_call 130; (with_reducible refine (HU.out _).mono ?_); rintro e w3 ⟨rfl, hb3⟩; have hb3 := (Below.refl w.heap.size w).drew.trans (hb3.mono (Below.refl w.heap.size w).drew.size); have F1 := HR.out.below hb3))
    all_goals
      have q1 := F1.c1
      have q2 := F1.f1
      go_wp2_with fail
      go_ret
      exact ⟨rfl, (Kp.of_below hb3).set (Or.inl (by simp)) _, F1.set1 ((i : Int) + (n : Int))⟩
end Go.Proofs.YtpaehicfndkliaaGreatDoor.Pa
