/- The law PathBrackets. Condition: the tree can be read; the library's two errors can be read. -/
import Derived.Test.YthbodojhddmbhaaDoorRf
namespace Go.Proofs.YthbodojhddmbhaaDoor.Pa
open Go.RowKit Go.Lib Na Go.PN

/-- A text that is refused for its form. -/
theorem parse_err (t : List UInt8) (w : World) (hG : ErG w) (h : (parseR t).2 = 3) : Calls Tryd.prog 15 #[strV t] w fun e w' => (∃ (k : Int) (l : ByteArray) (A : Option Addr) (n c : Nat) (mn mx : Int), e = .returned (.tuple #[.agg #[.int .i64 k, .string l, .slice A n c, .int .i64 mn, .int .i64 mx], .int .i64 3])) ∧ Below w.heap.size w w' :=
  (parse_any ⟨t.toArray⟩ w hG [] (fun x hx => by cases hx)).mono fun e w' ⟨⟨k, l, A, c, mn, mx, kids⟩, h1, h2, h3, h4⟩ => ⟨⟨k, l, A, _, c, mn, mx, by
    rw [show (⟨t.toArray⟩ : ByteArray).data.toList = t from by simp, h] at h1; exact h1⟩, h4⟩
theorem parse_eps (w : World) (hG : ErG w) : Calls Tryd.prog 15 #[.string ⟨#[40, 41]⟩] w fun e w' => (∃ (A : Option Addr) (c : Nat), e = .returned (.tuple #[.agg #[.int .i64 1, .string ⟨#[]⟩, .slice A 0 c, .int .i64 0, .int .i64 0], .int .i64 0])) ∧ Below w.heap.size w w' := by
  refine (parse_any ⟨#[40, 41]⟩ w hG [] (fun x hx => by cases hx)).mono fun e w' ⟨⟨k, l, A, c, mn, mx, kids⟩, h1, h2, h3, h4⟩ => ?_
  have e : parseR (⟨#[40, 41]⟩ : ByteArray).data.toList = (.cons 1 ⟨#[]⟩ .nil 0 0 .nil, 0) := eps_parse
  rw [e] at h1 h2
  have h2' : Fo.cons k l kids mn mx .nil = .cons 1 ⟨#[]⟩ .nil 0 0 .nil := h2
  injection h2' with a1 a2 a3 a4 a5 _
  subst a1 a2 a3 a4 a5
  exact ⟨⟨A, c, h1⟩, h4⟩
set_option maxRecDepth 100000 in
set_option maxHeartbeats 16000000 in
theorem pathBrackets_law (a : Nd) (w : World) (hG : ErG w) (h : a.ok w []) (hb : Bd (a.fo .nil) ∧ Lb (a.fo .nil)) : Calls Tryd.prog 5 #[a.v] w fun e w' => e = .returned (.bool true) ∧ Below w.heap.size w w' := by
  have HA := Lib.hid (fun (w1 : World) (hb : Below w.heap.size w w1) => awake_any w1 (hG.below hb))
  have HE := Lib.hid (fun (w1 : World) (hb : Below w.heap.size w w1) (t : List UInt8) (h : (parseR t).2 = 3) => parse_err t w1 (hG.below hb) h)
  have HP := Lib.hid (fun (w1 : World) (hb : Below w.heap.size w w1) => parse_eps w1 (hG.below hb))
  have HS := Lib.hid (fun (w1 : World) (hw : Below w.heap.size w w1) => small_any a [] w1 (h.below hw) hb.2)
  have HT := Lib.hid (fun (w1 : World) (hw : Below w.heap.size w w1) => Text_any a [] w1 (h.below hw) hb.1)
  have HC := Lib.hid (fun (w1 : World) (hw : Below w.heap.size w w1) => check_any a [] w1 (h.below hw) hb.1)
  obtain ⟨k, l, A, c, mn, mx, kids⟩ := a
  unfold Nd.v at *
  simp only at HS HT HC ⊢
  clear hG h hb
  have HW := Lib.hid ((Below.refl w.heap.size w).alloc (Nat.le_refl _) (cells5 k l A kids.len c mn mx))
  have HX := Lib.hid (fun (w2 : World) (hb : Below (w.heap.size + 1) (w.alloc (cells5 k l A kids.len c mn mx)) w2) => box_cells k l A kids.len c mn mx hb)
  have HX2 := Lib.hid (fun (w2 : World) (hb : Below (w.heap.size + 1) (w.alloc (cells5 k l A kids.len c mn mx)) w2) => box_below hb)
  have hsz2 : (w.alloc (cells5 k l A kids.len c mn mx)).heap.size = w.heap.size + 1 := by simp
  have HZ := Lib.hid hsz2
  have HI := Lib.hid (Below.refl (w.heap.size + 1) (w.alloc (cells5 k l A kids.len c mn mx)))
  clear hsz2
  by_cases hc : checkE k l kids mn mx = 0
  · have b1 := Lib.hid (br_no hc)
    have b2 := Lib.hid (open_no hc)
    have b3 := Lib.hid (bar_no hc)
    have hne : textT k l kids mn mx ≠ [] := fun e => textT_ne.1 e hc
    have hlen := (text_len hc).1
    rw [← show textT k l kids mn mx = bodyN k l kids mn mx from if_pos hc] at hlen
    have hs1 : ¬ 9223372036854775807 < 1 + (textT k l kids mn mx).length := by omega
    have hs2 : ¬ 9223372036854775807 < 1 + (textT k l kids mn mx).length + 1 := by omega
    have hs3 : ¬ 9223372036854775807 < (textT k l kids mn mx).length + 1 := by omega
    generalize textT k l kids mn mx = T at *
    have te : (T == []) = false := by cases T with | nil => exact absurd rfl hne | cons => rfl
    have te2 : T.isEmpty = false := by cases T with | nil => exact absurd rfl hne | cons => rfl
    have c1 : (⟨#[40]⟩ : ByteArray) ++ ⟨T.toArray⟩ ++ ⟨#[41]⟩ = ⟨([40] ++ T ++ [41]).toArray⟩ := by apply ByteArray.ext; simp
    have HE1 : Hid (∀ w1 : World, Below w.heap.size w w1 → Calls Tryd.prog 15 #[.string (⟨#[40]⟩ ++ ⟨T.toArray⟩ ++ ⟨#[41]⟩)] w1 fun e w' => (∃ (k : Int) (l : ByteArray) (A : Option Addr) (n c : Nat) (mn mx : Int), e = .returned (.tuple #[.agg #[.int .i64 k, .string l, .slice A n c, .int .i64 mn, .int .i64 mx], .int .i64 3])) ∧ Below w1.heap.size w1 w') := fun w1 hw => by rw [c1]; exact HE.out w1 hw _ b1.out
    have c2 : (⟨#[40]⟩ : ByteArray) ++ ⟨T.toArray⟩ = ⟨([40] ++ T).toArray⟩ := by apply ByteArray.ext; simp
    have HE2 : Hid (∀ w1 : World, Below w.heap.size w w1 → Calls Tryd.prog 15 #[.string (⟨#[40]⟩ ++ ⟨T.toArray⟩)] w1 fun e w' => (∃ (k : Int) (l : ByteArray) (A : Option Addr) (n c : Nat) (mn mx : Int), e = .returned (.tuple #[.agg #[.int .i64 k, .string l, .slice A n c, .int .i64 mn, .int .i64 mx], .int .i64 3])) ∧ Below w1.heap.size w1 w') := fun w1 hw => by rw [c2]; exact HE.out w1 hw _ b2.out
    have c3 : (⟨T.toArray⟩ : ByteArray) ++ ⟨#[124]⟩ = ⟨(T ++ [124]).toArray⟩ := by apply ByteArray.ext; simp
    have HE3 : Hid (∀ w1 : World, Below w.heap.size w w1 → Calls Tryd.prog 15 #[.string (⟨T.toArray⟩ ++ ⟨#[124]⟩)] w1 fun e w' => (∃ (k : Int) (l : ByteArray) (A : Option Addr) (n c : Nat) (mn mx : Int), e = .returned (.tuple #[.agg #[.int .i64 k, .string l, .slice A n c, .int .i64 mn, .int .i64 mx], .int .i64 3])) ∧ Below w1.heap.size w1 w') := fun w1 hw => by rw [c3]; exact HE.out w1 hw _ b3.out
    clear hne hlen c1 c2 c3 b1 b2 b3 hc
    go_enter Tryd.func5, Tryd.ntmps5
    go_wp2_with (go_at_call 10; (with_reducible refine (HS.out _ HW.out).mono ?_); rintro e w1 ⟨⟨B, rfl⟩, hb1⟩; have hb1 := Lib.hid (HZ.out ▸ hb1); obtain ⟨x0, x1, x2, x3, x4⟩ := HX.out _ hb1.out; refine Hid.out ?_)
    cases B
    · refine Lib.hid ?_
      go_wp2_with (go_at_call 8; (with_reducible refine (HA.out _ (HX2.out _ hb1.out)).mono ?_); rintro e w2 ⟨rfl, hb2⟩)
      go_ret
      exact ⟨rfl, (HX2.out _ hb1.out).trans (hb2.mono (HX2.out _ hb1.out).size)⟩
    · refine Lib.hid ?_
      go_wp2_with (first
        | (go_at_call 12; (with_reducible refine (HT.out _ (HX2.out _ hb1.out)).mono ?_); rintro e w2 ⟨rfl, hb2⟩; clear x0 x1 x2 x3 x4; have hb2 := Lib.hid ((HX2.out _ hb1.out).trans (hb2.mono (HX2.out _ hb1.out).size)))
        | (go_at_call 15; (with_reducible refine (HE1.out _ hb2.out).mono ?_); rintro e w3 ⟨⟨k3, l3, A3, n3, c3, mn3, mx3, rfl⟩, hb3⟩; have hb3 := Lib.hid ((hb2.out.trans (hb3.mono hb2.out.size)).alloc (Nat.le_trans hb2.out.size hb3.size) (cells5 k3 l3 A3 n3 c3 mn3 mx3)); refine Hid.out ?_))
      refine Lib.hid ?_
      go_wp2_with (go_at_call 15; (with_reducible refine (HP.out _ hb3.out).mono ?_); rintro e w4 ⟨⟨A4, c4, rfl⟩, hb4⟩; have hx4 := Lib.hid (Bx.new w4 (.int .i64 1) (.string ⟨#[]⟩) (.slice A4 0 c4) (.int .i64 0) (.int .i64 0) 27); have hb4 := Lib.hid ((hb3.out.trans (hb4.mono hb3.out.size)).alloc (Nat.le_trans hb3.out.size hb4.size) (cells5 1 ⟨#[]⟩ A4 0 c4 0 0)); refine Hid.out ?_)
      refine Lib.hid ?_
      go_wp2_with (go_at_call 15; (with_reducible refine (HE2.out _ hb4.out).mono ?_); rintro e w5 ⟨⟨k5, l5, A5, n5, c5, mn5, mx5, rfl⟩, hb5⟩; have hx5 := Lib.hid ((hx4.out.below hb5).al (cells5 k5 l5 A5 n5 c5 mn5 mx5)); have hb5 := Lib.hid ((hb4.out.trans (hb5.mono hb4.out.size)).alloc (Nat.le_trans hb4.out.size hb5.size) (cells5 k5 l5 A5 n5 c5 mn5 mx5)); refine Hid.out ?_)
      refine Lib.hid ?_
      go_wp2_with (go_at_call 15; (with_reducible refine (HE3.out _ hb5.out).mono ?_); rintro e w6 ⟨⟨k6, l6, A6, n6, c6, mn6, mx6, rfl⟩, hb6⟩; have hx6 := Lib.hid ((hx5.out.below hb6).al (cells5 k6 l6 A6 n6 c6 mn6 mx6)); have hb6 := Lib.hid ((hb5.out.trans (hb6.mono hb5.out.size)).alloc (Nat.le_trans hb5.out.size hb6.size) (cells5 k6 l6 A6 n6 c6 mn6 mx6)); have y0 := hx6.out.c0; refine Hid.out ?_)
      refine Lib.hid ?_
      go_wp2_with (go_at_call 8; (with_reducible refine (HA.out _ hb6.out).mono ?_); rintro e w7 ⟨rfl, hb7⟩)
      go_ret
      exact ⟨rfl, hb6.out.trans (hb7.mono hb6.out.size)⟩
  · have hT : textT k l kids mn mx = [] := textT_ne.2 hc
    rw [hT] at HT
    generalize checkE k l kids mn mx = E at *
    have tE : (E != 0) = true := by rw [bne_iff_ne]; exact hc
    clear hT hc
    go_enter Tryd.func5, Tryd.ntmps5
    go_wp2_with (go_at_call 10; (with_reducible refine (HS.out _ HW.out).mono ?_); rintro e w1 ⟨⟨B, rfl⟩, hb1⟩; have hb1 := Lib.hid (HZ.out ▸ hb1); obtain ⟨x0, x1, x2, x3, x4⟩ := HX.out _ hb1.out; refine Hid.out ?_)
    cases B
    · refine Lib.hid ?_
      go_wp2_with (go_at_call 8; (with_reducible refine (HA.out _ (HX2.out _ hb1.out)).mono ?_); rintro e w2 ⟨rfl, hb2⟩)
      go_ret
      exact ⟨rfl, (HX2.out _ hb1.out).trans (hb2.mono (HX2.out _ hb1.out).size)⟩
    · refine Lib.hid ?_
      go_wp2_with (first
        | (go_at_call 12; (with_reducible refine (HT.out _ (HX2.out _ hb1.out)).mono ?_); rintro e w2 ⟨rfl, hb2⟩; have hb2 := Lib.hid (hb1.out.trans (hb2.mono (Nat.le_trans (Nat.le_of_eq HZ.out.symm) hb1.out.size))); clear x0 x1 x2 x3 x4; obtain ⟨x0, x1, x2, x3, x4⟩ := HX.out _ hb2.out)
        | (go_at_call 11; (with_reducible refine (HC.out _ (HX2.out _ hb2.out)).mono ?_); rintro e w3 ⟨rfl, hb3⟩; have hb3 := Lib.hid ((HX2.out _ hb2.out).trans (hb3.mono (HX2.out _ hb2.out).size)); clear x0 x1 x2 x3 x4)
        | (go_at_call 8; (with_reducible refine (HA.out _ hb3.out).mono ?_); rintro e w4 ⟨rfl, hb4⟩))
      go_ret
      exact ⟨rfl, hb3.out.trans (hb4.mono hb3.out.size)⟩
end Go.Proofs.YthbodojhddmbhaaDoor.Pa
