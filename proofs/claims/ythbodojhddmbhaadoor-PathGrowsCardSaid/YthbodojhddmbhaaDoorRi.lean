/- For the law PathBinds: the walks of 'Round', of its function value; texts of paths put together. Condition: texts are not too long. -/
import Derived.Test.YthbodojhddmbhaaDoorRh
namespace Go.Proofs.YthbodojhddmbhaaDoor.Pa
open Go.RowKit Go.Lib Na Go.PN

theorem tmod3 (k : Int) : -3 < k.tmod 3 ∧ k.tmod 3 < 3 := ⟨Int.lt_tmod_of_pos k (by decide), Int.tmod_lt_of_pos k (by decide)⟩

def rnd3 (k : Int) : Int := if k.tmod 3 < 0 then k.tmod 3 + 3 else k.tmod 3
theorem rnd3_is (k : Int) : rnd3 k = 0 ∨ rnd3 k = 1 ∨ rnd3 k = 2 := by
  have := tmod3 k
  unfold rnd3; split <;> omega
set_option maxRecDepth 100000 in
theorem round_any (k : Int) (w : World) : Calls Tryd.prog 14 #[.int .i64 k, .int .i64 3] w fun e w' => e = .returned (.int .i64 (rnd3 k)) ∧ w' = w := by
  have hb := tmod3 k
  by_cases hk : k.tmod 3 < 0
  · have hm := Lib.hid (show rnd3 k = k.tmod 3 + 3 from if_pos hk)
    have hw := IntWalk.i64_in (k.tmod 3 + 3) (by omega)
    have hw2 := IntWalk.i64_in (k.tmod 3) (by omega)
    have td : decide (k.tmod 3 < 0) = true := decide_eq_true hk
    clear hb
    go_enter Tryd.func14, Tryd.ntmps14
    go_wp2_with fail
    go_ret
    exact ⟨by rw [hm.out]; rfl, rfl⟩
  · have hm := Lib.hid (show rnd3 k = k.tmod 3 from if_neg hk)
    have hw2 := IntWalk.i64_in (k.tmod 3) (by omega)
    have td : decide (k.tmod 3 < 0) = false := decide_eq_false hk
    clear hb
    go_enter Tryd.func14, Tryd.ntmps14
    go_wp2_with fail
    go_ret
    exact ⟨by rw [hm.out]; rfl, rfl⟩
/-- A text in brackets, where they are needed. -/
def wrT (k : Int) (alt : Bool) (T : List UInt8) : List UInt8 := if k = 5 ∨ (k = 4 ∧ alt = false) then [40] ++ T ++ [41] else T
set_option maxRecDepth 100000 in
set_option maxHeartbeats 4000000 in
theorem wrap_any (a : Nd) (T : List UInt8) (alt : Bool) (w : World) (hl : T.length ≤ 1000000) : Calls Tryd.prog 13 #[a.v, strV T, .bool alt] w fun e w' => e = .returned (strV (wrT a.k alt T)) ∧ Below w.heap.size w w' := by
  have HB := Lib.hid ((Below.refl w.heap.size w).alloc (Nat.le_refl _) (cells5 a.k a.l a.A a.kids.len a.c a.mn a.mx))
  have e1 : (⟨#[40]⟩ : ByteArray) ++ ⟨T.toArray⟩ ++ ⟨#[41]⟩ = ⟨([40] ++ T ++ [41]).toArray⟩ := by apply ByteArray.ext; simp
  have e0 := Lib.hid e1
  have hs1 : ¬ 9223372036854775807 < 1 + T.length := by omega
  have hs2 : ¬ 9223372036854775807 < 1 + T.length + 1 := by omega
  clear e1 hl
  unfold Nd.v
  rcases (show a.k = 5 ∨ (a.k = 4 ∧ alt = false) ∨ (a.k ≠ 5 ∧ a.k = 4 ∧ alt = true) ∨ (a.k ≠ 5 ∧ a.k ≠ 4) from by cases alt <;> simp <;> omega) with h | ⟨h, rfl⟩ | ⟨h5, h, rfl⟩ | ⟨h5, h4⟩
  · have hw := Lib.hid (show wrT a.k alt T = [40] ++ T ++ [41] from if_pos (Or.inl h))
    have t5 : (a.k == 5) = true := by rw [h]; rfl
    clear h
    go_enter Tryd.func13, Tryd.ntmps13
    go_wp2_with fail
    go_ret
    exact ⟨by rw [hw.out, e0.out]; rfl, HB.out⟩
  · have hw := Lib.hid (show wrT a.k false T = [40] ++ T ++ [41] from if_pos (Or.inr ⟨h, rfl⟩))
    have t5 : (a.k == 5) = false := by rw [h]; rfl
    have t4 : (a.k == 4) = true := by rw [h]; rfl
    clear h
    go_enter Tryd.func13, Tryd.ntmps13
    go_wp2_with fail
    go_ret
    exact ⟨by rw [hw.out, e0.out]; rfl, HB.out⟩
  · have hw := Lib.hid (show wrT a.k true T = T from if_neg (by rintro (e | ⟨_, e⟩); exact h5 e; cases e))
    have t5 : (a.k == 5) = false := by rw [h]; rfl
    have t4 : (a.k == 4) = true := by rw [h]; rfl
    clear h
    go_enter Tryd.func13, Tryd.ntmps13
    go_wp2_with fail
    go_ret
    exact ⟨by rw [hw.out]; rfl, HB.out⟩
  · have hw := Lib.hid (show wrT a.k alt T = T from if_neg (by rintro (e | ⟨e, _⟩); exact h5 e; exact h4 e))
    have t5 : (a.k == 5) = false := by rw [beq_eq_false_iff_ne]; exact h5
    have t4 : (a.k == 4) = false := by rw [beq_eq_false_iff_ne]; exact h4
    clear h5 h4
    go_enter Tryd.func13, Tryd.ntmps13
    go_wp2_with fail
    go_ret
    exact ⟨by rw [hw.out]; rfl, HB.out⟩
/-! Plain. -/
theorem txN_0 (k : Int) (l : ByteArray) (d : Fo) (mn mx : Int) (hc : checkE k l d mn mx = 0) : textT k l d mn mx = bodyN k l d mn mx := if_pos hc
theorem one_of {k : Int} {l : ByteArray} {d : Fo} {mn mx : Int} (hc : checkE k l d mn mx = 0) : oneE k l d mn mx = 0 := by
  unfold checkE at hc
  split at hc
  · cases hc
  · split at hc
    · rename_i h; exact absurd hc h
    · rename_i h; by_cases h2 : oneE k l d mn mx = 0
      · exact h2
      · exact absurd (by unfold allE at h; rw [alL_ne _ _ h2] at h; exact fun e => h2 e) (by simpa [allE, alL_ne _ _ h2] using h)
theorem none_of {k : Int} (hk : k = 4 ∨ k = 5) {l : ByteArray} {d : Fo} {mn mx : Int} (hc : checkE k l d mn mx = 0) : noneK k d = true := by
  have h := one_of hc
  unfold oneE at h
  split at h
  · cases h
  · split at h
    · cases h
    · rename_i h2
      rcases hk with rfl | rfl <;> simpa using h2
theorem bind_0 {a b : Nd} (ha : checkE a.k a.l a.kids a.mn a.mx = 0) (hb : checkE b.k b.l b.kids b.mn b.mx = 0) (hc : checkE 5 ⟨#[]⟩ (a.fo (b.fo .nil)) 0 0 = 0) :
    textT 5 ⟨#[]⟩ (a.fo (b.fo .nil)) 0 0 = textT a.k a.l a.kids a.mn a.mx ++ [124] ++ textT b.k b.l b.kids b.mn b.mx := by
  have h := none_of (Or.inr rfl) hc
  rw [Nd.fo, noneK, Nd.fo, noneK] at h
  simp only [Bool.and_eq_true, Bool.not_eq_true', beq_eq_false_iff_ne, ne_eq] at h
  rw [txN_0 _ _ _ _ _ hc, txN_0 _ _ _ _ _ ha, txN_0 _ _ _ _ _ hb]
  have e1 : ∀ k : Int, k ≠ 5 → ¬ bnd k < 1 := fun k h => by unfold bnd; rw [if_neg h]; split <;> decide
  show Lib.join (tx (a.fo (b.fo .nil)) 1) [124] = _
  rw [Nd.fo, tx_cons, Nd.fo, tx_cons, txN, if_neg (e1 _ h.1), txN, if_neg (e1 _ h.2.1)]
  simp [tx, Lib.join]
theorem bind_1 {a b : Nd} (ha : checkE a.k a.l a.kids a.mn a.mx = 0) (hb : checkE b.k b.l b.kids b.mn b.mx = 0) (hc : checkE 4 ⟨#[]⟩ (a.fo (b.fo .nil)) 0 0 = 0) :
    textT 4 ⟨#[]⟩ (a.fo (b.fo .nil)) 0 0 = wrT a.k true (textT a.k a.l a.kids a.mn a.mx) ++ [47] ++ wrT b.k true (textT b.k b.l b.kids b.mn b.mx) := by
  have h := none_of (Or.inl rfl) hc
  rw [Nd.fo, noneK, Nd.fo, noneK] at h
  simp only [Bool.and_eq_true, Bool.not_eq_true', beq_eq_false_iff_ne, ne_eq] at h
  rw [txN_0 _ _ _ _ _ hc, txN_0 _ _ _ _ _ ha, txN_0 _ _ _ _ _ hb]
  have e1 : ∀ (k : Int) (l : ByteArray) (d : Fo) (mn mx : Int), k ≠ 4 → txN k l d mn mx 2 = wrT k true (bodyN k l d mn mx) := fun k l d mn mx h => by
    unfold txN wrT bnd
    by_cases h5 : k = 5
    · rw [if_pos h5, if_pos (by decide), if_pos (Or.inl h5)]
    · rw [if_neg h5, if_neg h, if_neg (by decide), if_neg (by rintro (e | ⟨_, e⟩); exact h5 e; cases e)]
  show Lib.join (tx (a.fo (b.fo .nil)) 2) [47] = _
  rw [Nd.fo, tx_cons, Nd.fo, tx_cons, e1 _ _ _ _ _ h.1, e1 _ _ _ _ _ h.2.1]
  simp [tx, Lib.join]
theorem bind_2 {a : Nd} (ha : checkE a.k a.l a.kids a.mn a.mx = 0) (hc : checkE 6 ⟨#[]⟩ (a.fo .nil) 0 0 = 0) :
    textT 6 ⟨#[]⟩ (a.fo .nil) 0 0 = wrT a.k false (textT a.k a.l a.kids a.mn a.mx) ++ [42] := by
  rw [txN_0 _ _ _ _ _ hc, txN_0 _ _ _ _ _ ha]
  have e1 : ∀ (k : Int) (l : ByteArray) (d : Fo) (mn mx : Int), txN k l d mn mx 2 = wrT k false (bodyN k l d mn mx) := fun k l d mn mx => by
    unfold txN wrT bnd
    by_cases h5 : k = 5
    · rw [if_pos h5, if_pos (by decide), if_pos (Or.inl h5)]
    · by_cases h4 : k = 4
      · rw [if_neg h5, if_pos h4, if_pos (by decide), if_pos (Or.inr ⟨h4, rfl⟩)]
      · rw [if_neg h5, if_neg h4, if_neg (by decide), if_neg (by rintro (e | ⟨e, _⟩); exact h5 e; exact h4 e)]
  show Lib.join (tx (a.fo .nil) 2) [] ++ [42] = _
  rw [Nd.fo, tx_cons, e1]
  simp [tx, Lib.join]
end Go.Proofs.YthbodojhddmbhaaDoor.Pa
