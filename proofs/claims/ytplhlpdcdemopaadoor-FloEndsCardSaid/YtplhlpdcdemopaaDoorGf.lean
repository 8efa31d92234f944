/- The law FloEnds, walked. Conditions: the library's tables are laid; a slice can be read, its numbers are doubles. -/
import Derived.Test.YtplhlpdcdemopaaDoorGe
import Derived.Outline
namespace Go.Proofs.YtplhlpdcdemopaaDoor
open Go.RowKit Go.FT Go.FX Go.Lib

theorem pl_can (x : Nat) : pl (can x) = pl x := by
  cases h : isN x
  · rw [can_no h]
  · rw [can_yes h, pl_nan h]; decide
theorem less_can_left {x y : Nat} : less (can x) y = less x y := by unfold less; rw [pl_can]
theorem less_can_right {x y : Nat} : less x (can y) = less x y := by unfold less; rw [pl_can]
theorem pick_mem (last : Bool) (o x : Nat) : pick last o x = o ∨ pick last o x = x := by unfold pick; split <;> simp
theorem endF_mem {last : Bool} : ∀ (t : List Nat) (x : Nat), endF last x t = x ∨ endF last x t ∈ t
  | [], x => Or.inl rfl
  | y :: t, x => by
    show endF last (pick last x y) t = x ∨ endF last (pick last x y) t ∈ y :: t
    rcases endF_mem (last := last) t (pick last x y) with h | h
    · rw [h]
      rcases pick_mem last x y with e | e
      · exact Or.inl e
      · rw [e]; exact Or.inr (by simp)
    · exact Or.inr (by simp [h])
theorem endF_low : ∀ (t : List Nat) (x : Nat), pl (endF false x t) ≤ pl x ∧ ∀ y ∈ t, pl (endF false x t) ≤ pl y
  | [], x => ⟨Nat.le_refl _, fun y hy => by cases hy⟩
  | z :: t, x => by
    have hp : pl (pick false x z) ≤ pl x ∧ pl (pick false x z) ≤ pl z := by
      unfold pick best less
      by_cases h : pl z < pl x
      · rw [decide_eq_true h]; exact ⟨by show pl z ≤ pl x; omega, Nat.le_refl _⟩
      · rw [decide_eq_false h]; exact ⟨Nat.le_refl _, by show pl x ≤ pl z; omega⟩
    obtain ⟨a, b⟩ := endF_low t (pick false x z)
    show pl (endF false (pick false x z) t) ≤ pl x ∧ ∀ y ∈ z :: t, pl (endF false (pick false x z) t) ≤ pl y
    refine ⟨Nat.le_trans a hp.1, fun y hy => ?_⟩
    rcases List.mem_cons.1 hy with rfl | hy
    · exact Nat.le_trans a hp.2
    · exact b y hy
theorem endF_high : ∀ (t : List Nat) (x : Nat), pl x ≤ pl (endF true x t) ∧ ∀ y ∈ t, pl y ≤ pl (endF true x t)
  | [], x => ⟨Nat.le_refl _, fun y hy => by cases hy⟩
  | z :: t, x => by
    have hp : pl x ≤ pl (pick true x z) ∧ pl z ≤ pl (pick true x z) := by
      unfold pick best less
      by_cases h : pl x < pl z
      · rw [decide_eq_true h]; exact ⟨by show pl x ≤ pl z; omega, Nat.le_refl _⟩
      · rw [decide_eq_false h]; exact ⟨Nat.le_refl _, by show pl z ≤ pl x; omega⟩
    obtain ⟨a, b⟩ := endF_high t (pick true x z)
    show pl x ≤ pl (endF true (pick true x z) t) ∧ ∀ y ∈ z :: t, pl y ≤ pl (endF true (pick true x z) t)
    refine ⟨Nat.le_trans hp.1 a, fun y hy => ?_⟩
    rcases List.mem_cons.1 hy with rfl | hy
    · exact Nat.le_trans hp.2 a
    · exact b y hy
/-- What the two ends of a list are. -/
theorem ends_of {xs : List Nat} (h : xs ≠ []) : ∃ a b, endV false xs = (a, 0) ∧ endV true xs = (b, 0) ∧ xs.any (fun y => same y a) = true ∧ xs.any (fun y => same y b) = true ∧ (∀ y ∈ xs, less y a = false) ∧ (∀ y ∈ xs, less b y = false) := by
  cases xs with
  | nil => exact absurd rfl h
  | cons x t =>
    refine ⟨can (endF false x t), can (endF true x t), rfl, rfl, ?_, ?_, ?_, ?_⟩
    · refine List.any_eq_true.2 ⟨endF false x t, ?_, by rw [same_can_right]; exact same_refl _⟩
      rcases endF_mem (last := false) t x with e | e
      · rw [e]; simp
      · simp [e]
    · refine List.any_eq_true.2 ⟨endF true x t, ?_, by rw [same_can_right]; exact same_refl _⟩
      rcases endF_mem (last := true) t x with e | e
      · rw [e]; simp
      · simp [e]
    · intro y hy
      rw [less_can_right]
      obtain ⟨a, b⟩ := endF_low t x
      refine decide_eq_false ?_
      rcases List.mem_cons.1 hy with rfl | hy
      · omega
      · have := b y hy; omega
    · intro y hy
      rw [less_can_left]
      obtain ⟨a, b⟩ := endF_high t x
      refine decide_eq_false ?_
      rcases List.mem_cons.1 hy with rfl | hy
      · omega
      · have := b y hy; omega
theorem any_take {xs : List Nat} {k : Nat} (p : Nat → Bool) (h : k < xs.length) : (xs.take (k + 1)).any p = ((xs.take k).any p || p (xs.getD k 0)) := by
  rw [List.take_succ_eq_append_getElem h, List.any_append, List.getD_eq_getElem?_getD, List.getElem?_eq_getElem h]; simp
set_option maxRecDepth 100000 in
set_option maxHeartbeats 4000000 in
theorem floEnds_law (w : World) (hl : Lay w) (A : Option Addr) (xs : List Nat) (c : Nat) (hxs : FS w A xs c) :
    Calls Tryd.prog 6 #[.slice A xs.length c] w fun e w' => e = .returned (.bool true) ∧ Below w.heap.size w w' := by
  by_cases h0 : xs.length = 0
  · have h0' : ((xs.length : Int) == 0) = true := by rw [beq_iff_eq]; omega
    clear h0 hxs
    go_enter Tryd.func6, Tryd.ntmps6
    go_wp2_with (go_at_call 16; (with_reducible refine (awake_any _ hl).mono ?_); rintro e w5 ⟨rfl, hb5⟩)
    go_ret
    exact ⟨rfl, hb5⟩
  · have h0' : ((xs.length : Int) == 0) = false := by rw [beq_eq_false_iff_ne]; omega
    by_cases hn : 200 < xs.length
    · have hn' : decide (200 < (xs.length : Int)) = true := decide_eq_true (by omega)
      clear h0 hn hxs
      go_enter Tryd.func6, Tryd.ntmps6
      go_wp2_with (go_at_call 16; (with_reducible refine (awake_any _ hl).mono ?_); rintro e w5 ⟨rfl, hb5⟩)
      go_ret
      exact ⟨rfl, hb5⟩
    · have hn' : decide (200 < (xs.length : Int)) = false := decide_eq_false (by omega)
      obtain ⟨hr, hx, _, _⟩ := hxs
      have hrd := Rd.of_reads hr
      obtain ⟨a, b, hea, heb, hma, hmb, hla, hlb⟩ := ends_of (xs := xs) (fun e => h0 (by rw [e]; rfl))
      have HL := Lib.hid (fun (w1 : World) (hb : Below w.heap.size w w1) => least_any A c xs w1 (hrd.below hb) hx (by omega))
      have HM := Lib.hid (fun (w1 : World) (hb : Below w.heap.size w w1) => most_any A c xs w1 (hrd.below hb) hx (by omega))
      have haw := endV_lt false hx
      have hbw := endV_lt true hx
      rw [hea] at HL haw
      rw [heb] at HM hbw
      have HMA := Lib.hid hma
      have HMB := Lib.hid hmb
      have HLA := Lib.hid hla
      have HLB := Lib.hid hlb
      have hlen : xs.length ≤ 200 := by omega
      simp only at haw hbw
      clear hma hmb hla hlb hea heb hn h0
      go_enter Tryd.func6, Tryd.ntmps6
      go_wp2_with (first
        | (go_at_call 19; (with_reducible refine (HL.out _ (Below.refl _ _)).mono ?_); rintro e w' ⟨rfl, rfl⟩)
        | (go_at_call 21; (with_reducible refine (HM.out _ (Below.refl _ _)).mono ?_); rintro e w' ⟨rfl, rfl⟩))
      go_loopw [7, 8, 9] (fun lo hi i wr => ∃ (k : Nat) (lb hb : Bool), wr = w ∧ i = .int .i64 k ∧ lo = .bool lb ∧ hi = .bool hb ∧ k ≤ xs.length ∧ Hid ((xs.take k).any (fun y => same y a) = lb) ∧ Hid ((xs.take k).any (fun y => same y b) = hb)) (fun _ _ i _ => xs.length - (RowKit.intOf i).toNat)
      case atStart => exact ⟨0, false, false, rfl, rfl, rfl, rfl, Nat.zero_le _, Lib.hid rfl, Lib.hid rfl⟩
      case round =>
        obtain ⟨k, lb, hb, rfl, rfl, rfl, rfl, hk, hp, hq⟩ := hrel
        by_cases hlt : k < xs.length
        · obtain ⟨ad, rfl, hbb, hc⟩ := hrd k hlt
          have hm : xs.getD k 0 ∈ xs := by rw [List.getD_eq_getElem?_getD, List.getElem?_eq_getElem hlt]; exact List.getElem_mem hlt
          have hxk := hx _ hm
          have l1 := Lib.hid (HLA.out _ hm)
          have l2 := Lib.hid (HLB.out _ hm)
          have t1 := Lib.hid (any_take (fun y => same y a) hlt)
          have t2 := Lib.hid (any_take (fun y => same y b) hlt)
          clear hm
          generalize xs.getD k 0 = x at *
          have r1 : Hid ((xs.take (k + 1)).any (fun y => same y a) = (lb || same x a)) := Lib.hid (by rw [t1.out, hp.out])
          have r2 : Hid ((xs.take (k + 1)).any (fun y => same y b) = (hb || same x b)) := Lib.hid (by rw [t2.out, hq.out])
          cases lb <;> cases hb <;> cases ha : same x a <;> cases hb' : same x b
          all_goals
            rw [ha] at r1
            rw [hb'] at r2
            go_wp2_with (first
              | (go_at_call 15; (with_reducible refine (same_any x a _ hxk haw).mono ?_); rw [ha]; rintro e w' ⟨rfl, rfl⟩)
              | (go_at_call 15; (with_reducible refine (same_any x b _ hxk hbw).mono ?_); rw [hb']; rintro e w' ⟨rfl, rfl⟩)
              | (go_at_call 17; (with_reducible refine (less_any x a _ hxk haw).mono ?_); rw [l1.out]; rintro e w' ⟨rfl, rfl⟩)
              | (go_at_call 17; (with_reducible refine (less_any b x _ hbw hxk).mono ?_); rw [l2.out]; rintro e w' ⟨rfl, rfl⟩))
            go_roundw
            case rel => exact ⟨k + 1, _, _, trivial, by go_num, rfl, rfl, by omega, r1, r2⟩
            case measure => simp [RowKit.intOf]; omega
        · have hke : Hid (xs.take k = xs) := Lib.hid (List.take_of_length_le (by omega))
          have e1 : lb = true := by rw [← hp.out, hke.out]; exact HMA.out
          have e2 : hb = true := by rw [← hq.out, hke.out]; exact HMB.out
          subst e1 e2
          go_wp2_with (go_at_call 16; (with_reducible refine (awake_any _ hl).mono ?_); rintro e w5 ⟨rfl, hb5⟩)
          go_ret
          exact ⟨rfl, hb5⟩
end Go.Proofs.YtplhlpdcdemopaaDoor
