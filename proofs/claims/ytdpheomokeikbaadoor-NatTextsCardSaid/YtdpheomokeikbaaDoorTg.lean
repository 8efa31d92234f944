/- The walk of the law NatTexts, whatever the number, the text and the bytes. Conditions: the arguments can be read; the table of powers is laid. -/
import Derived.Test.YtdpheomokeikbaaDoorTe
namespace Go.Proofs.YtdpheomokeikbaaDoor
open Go.RowKit Go.NT Go.Lib

theorem bytes_both2 (b : Bool) (A : Option Addr) (n c : Nat) (xs : List Int) (hu : U32 xs) : ∃ (l : List Int) (err : Int), In255 l ∧
    (∀ w, NV w A n c xs → Calls Tryd.prog 28 #[.agg #[.bool b, .slice A n c]] w fun e w' => BX w w' e l err) ∧ (∀ w, NV w A n c xs → Calls Tryd.prog 29 #[.agg #[.bool b, .slice A n c]] w fun e w' => BX w w' e l err) := by
  by_cases hM : (if b then ((n : Int) == 0) else (((strip xs).length : Int) == (n : Int))) = true
  · cases b with
    | true =>
      have hn : ((n : Int) == 0) = true := hM
      have hn0 : (n : Int) = 0 := by simpa using hn
      exact ⟨[255], 0, (by intro z hz; simp only [List.mem_singleton] at hz; omega), fun w h => (bytes_inf A n c xs w h (Lib.hid hn)).mono fun e w' ⟨g, he, hr, hb⟩ => ⟨some ⟨g, 0, none⟩, 1, he, hr, hb⟩,
        fun w h => (rbytes_inf A n c xs w h (Lib.hid hn) (by omega)).mono fun e w' ⟨g, he, hr, hb⟩ => ⟨some ⟨g, 0, none⟩, 1, he, hr, hb⟩⟩
    | false =>
      by_cases hn : n ≤ 64
      · refine ⟨byteL n xs, 0, byteL_in hn hu, fun w h => (bytes_fin A n c xs w h hn (Lib.hid hM)).mono fun e w' ⟨A', c', he, hr, _, hb⟩ => ?_, fun w h => (rbytes_fin A n c xs w h hn (Lib.hid hM)).mono fun e w' ⟨A', c', he, hr, _, hb⟩ => ?_⟩
        all_goals
          refine ⟨A', c', ?_, ?_, hb⟩
          · rw [byteL_len h.len]; exact he
          · rw [byteL_len h.len]; exact hr
      · exact ⟨[], 5, (fun z hz => by cases hz), fun w h => (bytes_much A n c xs w h (Lib.hid hM) (by omega)).mono fun e w' ⟨he, hb⟩ => by subst he; exact BX.nil 5 hb,
          fun w h => (rbytes_much A n c xs w h (Lib.hid hM) (by omega)).mono fun e w' ⟨he, hb⟩ => by subst he; exact BX.nil 5 hb⟩
  · have hM : (if b then ((n : Int) == 0) else (((strip xs).length : Int) == (n : Int))) = false := (Bool.not_eq_true _).mp hM
    exact ⟨[], 16, (fun z hz => by cases hz), fun w h => (bytes_not b A n c xs w h (Lib.hid hM)).mono fun e w' ⟨he, hb⟩ => by subst he; exact BX.nil 16 hb,
      fun w h => (rbytes_not b A n c xs w h (Lib.hid hM)).mono fun e w' ⟨he, hb⟩ => by subst he; exact BX.nil 16 hb⟩
set_option maxRecDepth 100000 in
set_option maxHeartbeats 4000000 in
theorem texts_big (w : World) (ht : Tab w) (b1 : Bool) (A1 Ab : Option Addr) (n1 c1 cb Lb : Nat) (S : ByteArray) (h1 : n1 ≤ 9223372036854775807) (h : ¬ (n1 ≤ 100 ∧ S.size ≤ 800 ∧ Lb ≤ 600)) :
    Calls Tryd.prog 8 #[.agg #[.bool b1, .slice A1 n1 c1], .string S, .slice Ab Lb cb] w fun e w' => e = .returned (.bool true) ∧ Below w.heap.size w w' := by
  have hB : ∀ o1 o2 : Obj, Below w.heap.size w ((w.alloc o1).alloc o2) := fun o1 o2 => below_al (below_al (Below.refl _ _) o1) o2
  by_cases hn : n1 ≤ 100
  · have hs' : Hid (decide (n1 ≤ 100) = true) := Lib.hid (decide_eq_true hn)
    by_cases hS : S.size ≤ 800
    · have g1 : ¬ (800 : Int) < (S.size : Int) := by omega
      have g2 : (600 : Int) < (Lb : Int) := by omega
      go_enter Tryd.func8, Tryd.ntmps8
      go_wp2_with (first
        | (go_at_call 10; (with_reducible refine (small1 _ A1 n1 c1 true hs' _ h1 (by go_simp)).mono ?_); rintro e w1 ⟨rfl, rfl⟩)
        | (go_at_call 11; (with_reducible refine (awake_any _ (ht.below (hB _ _))).mono ?_); rintro e w2 ⟨rfl, hb2⟩))
      go_ret
      exact ⟨rfl, below_go (hB _ _) hb2⟩
    · have g1 : (800 : Int) < (S.size : Int) := by omega
      go_enter Tryd.func8, Tryd.ntmps8
      go_wp2_with (first
        | (go_at_call 10; (with_reducible refine (small1 _ A1 n1 c1 true hs' _ h1 (by go_simp)).mono ?_); rintro e w1 ⟨rfl, rfl⟩)
        | (go_at_call 11; (with_reducible refine (awake_any _ (ht.below (hB _ _))).mono ?_); rintro e w2 ⟨rfl, hb2⟩))
      go_ret
      exact ⟨rfl, below_go (hB _ _) hb2⟩
  · have hs' : Hid (decide (n1 ≤ 100) = false) := Lib.hid (decide_eq_false hn)
    clear hn
    go_enter Tryd.func8, Tryd.ntmps8
    go_wp2_with (first
      | (go_at_call 10; (with_reducible refine (small1 _ A1 n1 c1 false hs' _ h1 (by go_simp)).mono ?_); rintro e w1 ⟨rfl, rfl⟩)
      | (go_at_call 11; (with_reducible refine (awake_any _ (ht.below (hB _ _))).mono ?_); rintro e w2 ⟨rfl, hb2⟩))
    go_ret
    exact ⟨rfl, below_go (hB _ _) hb2⟩
theorem natTexts_law (w : World) (ht : Tab w) (b1 : Bool) (A1 : Option Addr) (n1 c1 : Nat) (xs : List Int) (hx : NV w A1 n1 c1 xs) (S : ByteArray) (Ab : Option Addr) (zs : List Int) (cb : Nat) (rb : Reads w w.heap.size 1 Ab zs.length (zs.map (Value.int .u8))) (hzs : ∀ z ∈ zs, (Lit.int .u8 z).wf = true) :
    Calls Tryd.prog 8 #[.agg #[.bool b1, .slice A1 n1 c1], .string S, .slice Ab zs.length cb] w fun e w' => e = .returned (.bool true) ∧ Below w.heap.size w w' := by
  by_cases h : n1 ≤ 100 ∧ S.size ≤ 800 ∧ zs.length ≤ 600
  · obtain ⟨h1, h2, h3⟩ := h
    have hz : ∀ z ∈ zs, 0 ≤ z ∧ z ≤ 255 := fun z hz => by
      have h5 := hzs z hz
      have hm : IntKind.u8.min = 0 := by decide
      have hM : IntKind.u8.max = 255 := by decide
      simp [Lit.wf, hm, hM] at h5
      omega
    obtain ⟨mP, eP, p1, p2⟩ := parse_both S (by omega)
    obtain ⟨bl, eB, hbl, q1, q2⟩ := bytes_both2 b1 A1 n1 c1 xs hx.2.2.1
    obtain ⟨mU, nU, eU, u1, u2⟩ := unb_both Ab zs.length cb zs hz (by omega)
    exact texts_small w ht b1 A1 Ab n1 c1 cb xs zs S hx rb h1 h2 h3 mP mU eP eB eU nU bl hbl p1 p2 q1 q2 u1 u2
  · exact texts_big w ht b1 A1 Ab n1 c1 cb zs.length S hx.2.2.2 h
end Go.Proofs.YtdpheomokeikbaaDoor
