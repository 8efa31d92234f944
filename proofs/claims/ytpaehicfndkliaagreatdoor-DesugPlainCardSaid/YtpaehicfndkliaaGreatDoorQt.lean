/- The walks of 'Read', 'Parse'. Condition: of 'Read', a text of at most a million bytes; the library's two errors can be read. -/
import Derived.Test.YtpaehicfndkliaaGreatDoorQs
namespace Go.Proofs.YtpaehicfndkliaaGreatDoor.Pa
open Go.RowKit Go.Lib Na Go.PN

theorem read_any (s : ByteArray) (w : World) (hm : s.size ≤ 1000000) (hG : ErG w) (X : List Nat) (hXs : ∀ x ∈ X, x < w.heap.size) : Calls Tryz.prog 62 #[.string s] w (ReadP w X (readR s.data.toList)) := by
  have hz : s.data.toList.length = s.size := by simp
  rcases hx : altR NP 80 s.data.toList with _ | ⟨p, u⟩
  · have e : readR s.data.toList = none := by unfold readR; rw [hx]
    rw [e]
    exact read_left s w hm hG hx
  · have e : readR s.data.toList = if textF p = s.data.toList.take (s.size - u.length) then some (p, s.size - u.length) else none := by
      unfold readR; rw [hx, hz]
    exact read_ok s w hm hG X hXs hx _ e
abbrev zeroF : Fo := .cons 0 ⟨#[]⟩ .nil 0 0 .nil
/-- The path whose text it is; else why there is none. -/
def parseR (l : List UInt8) : Fo × Int :=
  if 4000 < l.length then (zeroF, 5)
  else match readR l with
    | some (p, n) => if n = 0 ∨ n < l.length then (zeroF, 3) else (p, 0)
    | none => (zeroF, 3)
def ParseP (w : World) (X : List Nat) (r : Fo × Int) (e : Ending) (w' : World) : Prop :=
  ∃ a : Nd, e = .returned (.tuple #[a.v, .int .i64 r.2]) ∧ a.fo .nil = r.1 ∧ a.ok w' X ∧ Below w.heap.size w w'
theorem zero_ok (w : World) (X : List Nat) : Nd.ok w X ⟨0, ⟨#[]⟩, none, 0, 0, 0, .nil⟩ := ⟨Nat.le_refl _, by simp, trivial⟩
set_option maxRecDepth 100000 in
set_option maxHeartbeats 8000000 in
theorem parse_any (s : ByteArray) (w : World) (hG : ErG w) (X : List Nat) (hXs : ∀ x ∈ X, x < w.heap.size) : Calls Tryz.prog 32 #[.string s] w (ParseP w X (parseR s.data.toList)) := by
  have hz : s.data.toList.length = s.size := by simp
  obtain ⟨r, hr⟩ : ∃ r, parseR s.data.toList = r := ⟨_, rfl⟩
  rw [hr]
  have HB1 := Lib.hid (Bx.new w (.int .i64 0) (.string ⟨#[]⟩) (.slice none 0 0) (.int .i64 0) (.int .i64 0) 24)
  have HW1 := Lib.hid ((Below.refl w.heap.size w).alloc (Nat.le_refl _) zero5)
  by_cases h4 : 4000 < s.size
  · have HR := Lib.hid (show r = (zeroF, 5) by rw [← hr]; unfold parseR; rw [hz, if_pos h4])
    have t4 : decide ((s.size : Int) > 4000) = true := decide_eq_true (by omega)
    clear hr hz hG hXs
    go_enter Tryz.func32, Tryz.ntmps32
    go_wp2_with fail
    exact bodyPost_ret (v := .tuple #[zeroV, .int .i64 5]) (by simp [results, Tryz.results32, go_sem]) rfl (by rw [HR.out]; exact ⟨⟨0, ⟨#[]⟩, none, 0, 0, 0, .nil⟩, rfl, rfl, zero_ok _ _, HW1.out⟩)
  · have t4 : decide ((s.size : Int) > 4000) = false := decide_eq_false (by omega)
    have HC := Lib.hid (fun (w1 : World) (hb : Below w.heap.size w w1) (hl : w.heap.size < w1.heap.size) => read_any s w1 (by omega) (hG.below hb) (w.heap.size :: X) (fun x hx => by
      rcases List.mem_cons.1 hx with rfl | hx
      · exact hl
      · have := hXs x hx; omega))
    have HL := Lib.hid HB1.out.lt
    rcases hx : readR s.data.toList with _ | ⟨p, n⟩
    · have HR := Lib.hid (show r = (zeroF, 3) by rw [← hr]; unfold parseR; rw [hz, if_neg h4, hx])
      rw [hx] at HC
      have HC2 : Hid (∀ w1 : World, Below w.heap.size w w1 → w.heap.size < w1.heap.size → Calls Tryz.prog 62 #[.string s] w1 fun e w' => e = .returned (.tuple #[.agg #[.int .i64 0, .string ⟨#[]⟩, .slice none 0 0, .int .i64 0, .int .i64 0], .int .i64 0]) ∧ Below w1.heap.size w1 w') := HC.out
      clear hr hz hG hXs hx HC
      go_enter Tryz.func32, Tryz.ntmps32
      go_wp2_with (go_at_call 62; (with_reducible refine (HC2.out _ HW1.out HL.out).mono ?_); rintro e w2 ⟨rfl, hb2⟩; have HB2 := Lib.hid ((HB1.out.below hb2).al zero5); have HW2 := Lib.hid ((HW1.out.trans (hb2.mono HW1.out.size)).alloc (Nat.le_trans HW1.out.size hb2.size) zero5); clear hb2; have z0 := HB2.out.c0; have z1 := HB2.out.c1; have z2 := HB2.out.c2; have z3 := HB2.out.c3; have z4 := HB2.out.c4; have y0 := HB2.out.f0; have y1 := HB2.out.f1; have y2 := HB2.out.f2; have y3 := HB2.out.f3; have y4 := HB2.out.f4)
      exact bodyPost_ret (v := .tuple #[zeroV, .int .i64 3]) (by simp [results, Tryz.results32, go_sem, z0, z1, z2, z3, z4]) rfl (by rw [HR.out]; exact ⟨⟨0, ⟨#[]⟩, none, 0, 0, 0, .nil⟩, rfl, rfl, zero_ok _ _, below_w5 HW2.out (Nat.le_refl _)⟩)
    · rw [hx] at HC
      have HC2 : Hid (∀ w1 : World, Below w.heap.size w w1 → w.heap.size < w1.heap.size → Calls Tryz.prog 62 #[.string s] w1 fun e w' => ∃ (k : Int) (l : ByteArray) (A : Option Addr) (c : Nat) (mn mx : Int) (kids : Fo), e = .returned (.tuple #[.agg #[.int .i64 k, .string l, .slice A kids.len c, .int .i64 mn, .int .i64 mx], .int .i64 n]) ∧ Fo.cons k l kids mn mx .nil = p ∧ Nd.ok w' (w.heap.size :: X) ⟨k, l, A, c, mn, mx, kids⟩ ∧ Below w1.heap.size w1 w') := fun w1 h1 h2 => (HC.out w1 h1 h2).mono fun e w' ⟨⟨k, l, A, c, mn, mx, kids⟩, h3, h4, h5, h6⟩ => ⟨k, l, A, c, mn, mx, kids, h3, h4, h5, h6⟩
      by_cases hn0 : n = 0
      · have HR := Lib.hid (show r = (zeroF, 3) by rw [← hr]; unfold parseR; rw [hz, if_neg h4, hx]; simp only; rw [if_pos (Or.inl hn0)])
        subst hn0
        clear hr hz hG hXs hx HC
        go_enter Tryz.func32, Tryz.ntmps32
        go_wp2_with (go_at_call 62; (with_reducible refine (HC2.out _ HW1.out HL.out).mono ?_); rintro e w2 ⟨k, l, A, c, mn, mx, kids, rfl, hfo, hok, hb2⟩; have HF := Lib.hid hfo; have HO2 := Lib.hid (hok.al (cells5 k l A kids.len c mn mx)); have HB2 := Lib.hid ((HB1.out.below hb2).al (cells5 k l A kids.len c mn mx)); have HW2 := Lib.hid ((HW1.out.trans (hb2.mono HW1.out.size)).alloc (Nat.le_trans HW1.out.size hb2.size) (cells5 k l A kids.len c mn mx)); clear hb2 hok hfo; have z0 := HB2.out.c0; have y0 := HB2.out.f0; have z1 := HB2.out.c1; have y1 := HB2.out.f1; have z2 := HB2.out.c2; have y2 := HB2.out.f2; have z3 := HB2.out.c3; have y3 := HB2.out.f3; have z4 := HB2.out.c4; have y4 := HB2.out.f4)
        exact bodyPost_ret (v := .tuple #[zeroV, .int .i64 3]) (by simp [results, Tryz.results32, go_sem, z0, z1, z2, z3, z4]) rfl (by rw [HR.out]; exact ⟨⟨0, ⟨#[]⟩, none, 0, 0, 0, .nil⟩, rfl, rfl, zero_ok _ _, below_w5 HW2.out (Nat.le_refl _)⟩)
      · have tn : ((n : Int) == 0) = false := by rw [beq_eq_false_iff_ne]; omega
        by_cases hn1 : n < s.size
        · have HR := Lib.hid (show r = (zeroF, 3) by rw [← hr]; unfold parseR; rw [hz, if_neg h4, hx]; simp only; rw [if_pos (Or.inr hn1)])
          have tl : decide (n < s.size) = true := decide_eq_true hn1
          clear hr hz hG hXs hx HC
          go_enter Tryz.func32, Tryz.ntmps32
          go_wp2_with (go_at_call 62; (with_reducible refine (HC2.out _ HW1.out HL.out).mono ?_); rintro e w2 ⟨k, l, A, c, mn, mx, kids, rfl, hfo, hok, hb2⟩; have HF := Lib.hid hfo; have HO2 := Lib.hid (hok.al (cells5 k l A kids.len c mn mx)); have HB2 := Lib.hid ((HB1.out.below hb2).al (cells5 k l A kids.len c mn mx)); have HW2 := Lib.hid ((HW1.out.trans (hb2.mono HW1.out.size)).alloc (Nat.le_trans HW1.out.size hb2.size) (cells5 k l A kids.len c mn mx)); clear hb2 hok hfo; have z0 := HB2.out.c0; have y0 := HB2.out.f0; have z1 := HB2.out.c1; have y1 := HB2.out.f1; have z2 := HB2.out.c2; have y2 := HB2.out.f2; have z3 := HB2.out.c3; have y3 := HB2.out.f3; have z4 := HB2.out.c4; have y4 := HB2.out.f4)
          exact bodyPost_ret (v := .tuple #[zeroV, .int .i64 3]) (by simp [results, Tryz.results32, go_sem, z0, z1, z2, z3, z4]) rfl (by rw [HR.out]; exact ⟨⟨0, ⟨#[]⟩, none, 0, 0, 0, .nil⟩, rfl, rfl, zero_ok _ _, below_w5 HW2.out (Nat.le_refl _)⟩)
        · have HR := Lib.hid (show r = (p, 0) by rw [← hr]; unfold parseR; rw [hz, if_neg h4, hx]; simp only; rw [if_neg (by omega)])
          have tl : decide (n < s.size) = false := decide_eq_false hn1
          clear hr hz hG hXs hx HC
          go_enter Tryz.func32, Tryz.ntmps32
          go_wp2_with (go_at_call 62; (with_reducible refine (HC2.out _ HW1.out HL.out).mono ?_); rintro e w2 ⟨k, l, A, c, mn, mx, kids, rfl, hfo, hok, hb2⟩; have HF := Lib.hid hfo; have HO2 := Lib.hid (hok.al (cells5 k l A kids.len c mn mx)); have HB2 := Lib.hid ((HB1.out.below hb2).al (cells5 k l A kids.len c mn mx)); have HW2 := Lib.hid ((HW1.out.trans (hb2.mono HW1.out.size)).alloc (Nat.le_trans HW1.out.size hb2.size) (cells5 k l A kids.len c mn mx)); clear hb2 hok hfo; have z0 := HB2.out.c0; have y0 := HB2.out.f0; have z1 := HB2.out.c1; have y1 := HB2.out.f1; have z2 := HB2.out.c2; have y2 := HB2.out.f2; have z3 := HB2.out.c3; have y3 := HB2.out.f3; have z4 := HB2.out.c4; have y4 := HB2.out.f4)
          exact bodyPost_ret (v := .tuple #[.agg #[.int .i64 k, .string l, .slice A kids.len c, .int .i64 mn, .int .i64 mx], .int .i64 0]) (by simp [results, Tryz.results32, go_sem, z0, z1, z2, z3, z4]) rfl (by rw [HR.out]; exact ⟨⟨k, l, A, c, mn, mx, kids⟩, rfl, HF.out, (HO2.out.w5 (b := w.heap.size) (by simp)).less (by intro y hy; simp [hy]), below_w5 HW2.out (Nat.le_refl _)⟩)
end Go.Proofs.YtpaehicfndkliaaGreatDoor.Pa
