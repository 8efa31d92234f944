/- Reading a double: the program's; plain facts for the document's. Conditions: the library's tables are laid. -/
import Derived.Test.YtplhlpdcdemopaaDoorFn
namespace Go.Proofs.YtplhlpdcdemopaaDoor
open Go.RowKit Go.FT Go.FX Go.Lib

theorem parse_any (S : ByteArray) (hS : S.size ≤ 4000000000) (w : World) (hl : Lay w) :
    Calls Tryd.prog 13 #[.string S] w fun e w' => PR S w w' e := by
  by_cases h1 : rest S.data.toList = sNan
  · cases hg : neg S.data.toList
    · cases hm : decide (T NAN = S.data.toList)
      · exact parseNanPQ S hS h1 hg hm w hl
      · exact parseNanPY S hS h1 hg hm w hl
    · cases hm : decide (T (sg true NAN) = S.data.toList)
      · exact parseNanNQ S hS h1 hg hm w hl
      · exact parseNanNY S hS h1 hg hm w hl
  · by_cases h2 : rest S.data.toList = sInf
    · cases hg : neg S.data.toList
      · cases hm : decide (T INF = S.data.toList)
        · exact parseInfPQ S hS h2 hg hm w hl
        · exact parseInfPY S hS h2 hg hm w hl
      · cases hm : decide (T (sg true INF) = S.data.toList)
        · exact parseInfNQ S hS h2 hg hm w hl
        · exact parseInfNY S hS h2 hg hm w hl
    · obtain ⟨r, hr⟩ : ∃ r, rest S.data.toList = r := ⟨_, rfl⟩
      have HR := Lib.hid hr
      rw [hr] at h1 h2
      cases hc : cut r [98] with
      | mk a cb =>
        obtain ⟨c, ok⟩ := cb
        have HC := Lib.hid hc
        cases ok
        · exact parseNoCut S hS HR (Lib.hid rfl) h1 h2 HC w hl
        · rcases hp : parseUintB 64 a with u | _ | _
          · rcases hk : atoiAll c with k | _ | _
            · by_cases hb : u < 2 * B
              · cases hg : neg S.data.toList
                · exact parseOkP S hS HR (Lib.hid hg) h1 h2 HC (Lib.hid hp) (Lib.hid hk) hb w hl
                · exact parseOkN S hS HR (Lib.hid hg) h1 h2 HC (Lib.hid hp) (Lib.hid hk) hb w hl
              · exact parseBadBig S hS HR (Lib.hid rfl) h1 h2 HC (Lib.hid hp) (Lib.hid hk) (by unfold B at hb; omega) w hl
            all_goals exact parseBadOE S hS HR (Lib.hid rfl) h1 h2 HC (Lib.hid hp) (Lib.hid (by intro n e; rw [hk] at e; cases e)) w hl
          all_goals
            have hu : Hid (∀ n, parseUintB 64 a ≠ .ok n) := Lib.hid (by intro n e; rw [hp] at e; cases e)
            rcases hk : atoiAll c with k | _ | _
            · exact parseBadEO S hS HR (Lib.hid rfl) h1 h2 HC hu (Lib.hid hk) w hl
            all_goals exact parseBadEE S hS HR (Lib.hid rfl) h1 h2 HC hu (Lib.hid (by intro n e; rw [hk] at e; cases e)) w hl

/-! the document's -/
theorem neg_sgn (l : List UInt8) : neg l = sgn l := by
  unfold neg sgn hasPrefix
  cases l with
  | nil => rfl
  | cons c t =>
    simp only [List.isPrefixOf, Bool.and_true, List.head?_cons]
    rw [Bool.eq_iff_iff, beq_iff_eq, beq_iff_eq]
    constructor
    · intro h; rw [h]
    · intro h; injection h with h; exact h.symm
theorem rest_mgn (l : List UInt8) : rest l = mgn l := by
  have h := neg_sgn l
  unfold neg at h
  unfold rest mgn trimPrefix
  rw [h]; rfl
theorem cut_none {l : List UInt8} (h : ∀ d ∈ l, d ≠ 98) : cut l [98] = (l, [], false) := by
  have hi : index l [98] = -1 := by
    refine index_none (fun j _ => ?_)
    rw [Bool.eq_false_iff]
    intro ho
    have h1 := occAt_head (c := 98) (t := []) rfl ho
    exact h _ (List.mem_of_getElem? h1) rfl
  unfold cut
  rw [hi]; rfl
theorem cut_at {l : List UInt8} {k : Nat} (hk : k < l.length) (h : ∀ (j : Nat) (hj : j < l.length), j < k → l[j] ≠ 98) (hb : l[k] = 98) : cut l [98] = (l.take k, l.drop (k + 1), true) := by
  have e : l = l.take k ++ 98 :: l.drop (k + 1) := by
    rw [← hb, ← List.drop_eq_getElem_cons hk, List.take_append_drop]
  have h2 := cut_b (l.take k) (l.drop (k + 1)) (fun d hd => by
    obtain ⟨j, hj, rfl⟩ := List.mem_iff_getElem.1 hd
    rw [List.getElem_take]
    rw [List.length_take] at hj
    exact h j (by omega) (by omega))
  rw [← e] at h2
  exact h2
/-- How far the document's doubling and halving is. -/
def ToI (n : Nat) (k : Int) (y : Nat) (d : Int) : Prop := ∀ r, Is n k r → To y d r ∧ (d < 0 → y < INF)
theorem ToI.start {n : Nat} (k : Int) (hn : n ≤ 2 * B) : ToI n k (F n) k := fun _ h => ⟨h.to hn, fun _ => (F_full hn).1⟩
theorem ToI.up {n y y' : Nat} {k d : Int} (h : ToI n k y d) (hd : 0 < d) (hy : ∀ s, s < INF → V s = 2 * V y → y' = s) : ToI n k y' (d - 1) :=
  fun r hr => ⟨(h r hr).1.up hd hr.2.1 hy, fun hh => by omega⟩
theorem ToI.down {n y y' : Nat} {k d : Int} (h : ToI n k y d) (hd : d < 0) (hy : ∀ s, s < INF → V y = 2 * V s → y ≠ INF → y' = s) : ToI n k y' (d + 1) :=
  fun r hr => by
    have hlt := (h r hr).2 hd
    obtain ⟨a, b⟩ := (h r hr).1.down hd hlt (fun s hs hv => hy s hs hv (by omega))
    exact ⟨a, fun _ => b⟩
theorem ToI.done {n y : Nat} {k : Int} (h : ToI n k y 0) : ∀ r, Is n k r → y = r := fun r hr => (h r hr).1.done
theorem mul2_run {x : Nat} (h : x ≤ INF) : ∃ y, (∀ w : World, (binOp .mul 23 (.float .f64 x) (.float .f64 4611686018427387904)).run Tryd.prog w = .ok (.float .f64 y) w) ∧ y ≤ INF ∧ ∀ r, r < INF → V r = 2 * V x → y = r := by
  obtain ⟨y, h1, h2, h3⟩ := mul_two h
  exact ⟨y, fun w => run_float_arith w .mul 23 .f64 _ _ _ h1, h2, h3⟩
theorem div2_run {x : Nat} (h : x ≤ INF) : ∃ y, (∀ w : World, (binOp .quo 23 (.float .f64 x) (.float .f64 4611686018427387904)).run Tryd.prog w = .ok (.float .f64 y) w) ∧ y ≤ INF ∧ ∀ r, r < INF → V x = 2 * V r → x ≠ INF → y = r := by
  obtain ⟨y, h1, h2, h3⟩ := div_two h
  exact ⟨y, fun w => run_float_arith w .quo 23 .f64 _ _ _ h1, h2, h3⟩
theorem rof_can (y : Nat) (hy : y < W64) (w : World) : Calls Tryd.prog 30 #[.int .u64 (can y : Nat)] w fun e w' => e = .returned (.float .f64 (can y)) ∧ w = w' := by
  have h := rof_any (can y) w (can_lt hy)
  rw [can_can] at h
  exact h
theorem rof_nan (w : World) : Calls Tryd.prog 30 #[.int .u64 9221120237041090560] w fun e w' => e = .returned (.float .f64 NAN) ∧ w = w' := by
  have h := rof_any 9221120237041090560 w (by decide)
  rw [show can 9221120237041090560 = NAN by decide] at h
  exact h
theorem rof_inf (w : World) : Calls Tryd.prog 30 #[.int .u64 9218868437227405312] w fun e w' => e = .returned (.float .f64 INF) ∧ w = w' := by
  have h := rof_any 9218868437227405312 w (by decide)
  rw [show can 9218868437227405312 = INF by decide] at h
  exact h
end Go.Proofs.YtplhlpdcdemopaaDoor
