/- Copying digits, and what is known of a row of the call's own while it is written. Conditions: the digits can be read. -/
import Derived.Test.YtdkmmnehlmaebaaDoorNWb
import Derived.Lib.SliceRun
namespace Go.Proofs.YtdkmmnehlmaebaaDoor.Na
open Go.RowKit Go.NT

theorem i60 : ∃ i : TypeInfo, Tryd.prog.info? 96 = some i ∧ i.zero = some (.int .u32 0) ∧ i.size = 1 ∧ i.bytes = 4 := by
  have h := info96
  cases hh : Tryd.prog.info? 96 with
  | none => rw [hh] at h; cases h
  | some i =>
    rw [hh] at h
    simp only [Option.map_some, Option.some.injEq, Prod.mk.injEq] at h
    exact ⟨i, rfl, h.1, h.2.1, h.2.2⟩

theorem own_nil (w : World) (base : Nat) (e : TypeId) : w.ownsRow base e 1 (.slice none 0 0) 0 [] := ⟨by simp, .inl ⟨rfl, rfl⟩⟩
theorem q22 (w : World) (a : Option Addr) (n c n' c' : Nat) : (binOp .eql 22 (.slice a n c) (.slice none n' c')).run Tryd.prog w = .ok (.bool a.isNone) w := Lib.run_eql_slice_nil w _ _ a n c n' c' Tryd.underlying22

set_option maxHeartbeats 400000 in
theorem clone_any (A : Option Addr) (n c : Nat) (xs : List Int) (w : World) {B : Nat} (hr : Reads w B 1 A n (xs.map (Value.int .u32))) (hB : B ≤ w.heap.size) (hn : n ≤ 35184372088832) :
    Calls Tryd.prog 87 #[.slice A n c] w fun e w' => ∃ (A' : Option Addr) (c' : Nat), e = .returned (.slice A' n c') ∧ w'.ownsRow w.heap.size 96 1 (.slice A' n c') n (xs.map (Value.int .u32)) ∧ n ≤ c' ∧ Below w.heap.size w w' := by
  obtain ⟨i, hi, hz0, hz1, hz2⟩ := i60
  cases A with
  | none =>
    have h0 : n = 0 := by
      rcases Nat.eq_zero_or_pos n with h | h
      · exact h
      · obtain ⟨ad, h, _⟩ := hr.2 h; cases h
    subst h0
    have hxs : xs = [] := List.eq_nil_of_length_eq_zero (by have := hr.1; simpa using this)
    subst hxs
    have qq := q22
    clear hi hz0 hz1 hz2
    go_enter Tryd.func87, Tryd.ntmps87
    go_wp2
    go_ret
    exact ⟨none, 0, rfl, own_nil _ _ _, Nat.le_refl _, Below.refl _ _⟩
  | some ad =>
    have qq := q22
    go_enter Tryd.func87, Tryd.ntmps87
    go_wp2_with (at_builtin; refine wpList_append_reads _ (Value.int .u32) (fun _ => rfl) 22 96 i _ 4 Tryd.underlying22 hi hz0 hz1 hz2 rfl rfl (.tmp 5) (.tmp 6) rfl w.heap.size _ 0 [] rfl (World.ownsRow_made w #[] 0 (Nat.le_refl _) (Nat.zero_le _) rfl) B _ n c xs rfl (hr.alloc hB _) (by unfold maxLen; omega) (by omega) (by simp) ?_; intro A1 n1 c1 w1 hn1 hc1 hown1 hb1)
    go_ret
    obtain rfl : n1 = n := by have := hn1.out; omega
    exact ⟨A1, c1, rfl, hown1, hc1.out, below_step (below_al (Below.refl _ _) _) hb1 (Nat.le_refl _)⟩
end Go.Proofs.YtdkmmnehlmaebaaDoor.Na
