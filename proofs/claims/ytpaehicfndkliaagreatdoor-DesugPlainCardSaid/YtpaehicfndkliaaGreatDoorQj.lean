/- The walk of the reader's 'post'. Condition: the reader lies in memory; what 'alt' does is known. -/
import Derived.Test.YtpaehicfndkliaaGreatDoorQi
namespace Go.Proofs.YtpaehicfndkliaaGreatDoor.Pa
open Go.RowKit Go.Lib Na Go.PN

theorem postL_sign {N : Num} {n : Nat} {p : Fo} {t u : List UInt8} (c : UInt8) (k : Int) (h : t = c :: u) (hc : (c = 42 ∧ k = 6) ∨ (c = 43 ∧ k = 7) ∨ (c = 63 ∧ k = 8)) : postL N (n + 1) p t = postL N n (one1 k [] p 0 0) u := by
  subst h
  rcases hc with ⟨rfl, rfl⟩ | ⟨rfl, rfl⟩ | ⟨rfl, rfl⟩ <;> rfl
theorem postL_rep {N : Num} {n : Nat} {p : Fo} {u : List UInt8} : postL N (n + 1) p (123 :: u) = match repR N p u with | some (q, v) => postL N n q v | none => none := by
  rw [postL, if_neg (by decide), if_neg (by decide), if_neg (by decide), if_pos rfl]
  cases repR N p u <;> rfl
theorem postL_none {N : Num} {n : Nat} {p : Fo} {t : List UInt8} (h1 : hd 42 t = false) (h2 : hd 43 t = false) (h3 : hd 63 t = false) (h4 : hd 123 t = false) : postL N n p t = some (p, t) := by
  cases n with
  | zero => rfl
  | succ n =>
    cases t with
    | nil => rfl
    | cons c u =>
      rw [postL, if_neg, if_neg, if_neg, if_neg]
      · intro e; subst e; simp [hd] at h4
      · intro e; subst e; simp [hd] at h3
      · intro e; subst e; simp [hd] at h2
      · intro e; subst e; simp [hd] at h1
theorem repR_suf {p q : Fo} {t v : List UInt8} (h : repR NP p t = some (q, v)) : ∃ r, t = r ++ v := by
  obtain ⟨a, h1⟩ : ∃ a, t = a ++ (numR t).2 := ⟨_, numR_suf t⟩
  unfold repR at h
  have e1 : NP.mn t = some (numR t) := rfl
  rw [e1] at h
  obtain ⟨m, u, hn⟩ : ∃ m u, numR t = (m, u) := ⟨_, _, rfl⟩
  rw [hn] at h h1
  simp only at h
  split at h
  · rename_i hh
    obtain ⟨u2, rfl⟩ : ∃ u2, u = 44 :: u2 := by
      cases u with
      | nil => cases hh
      | cons c u2 => injection hh with hh; subst hh; exact ⟨u2, rfl⟩
    obtain ⟨b, h2⟩ : ∃ b, u2 = b ++ (numR u2).2 := ⟨_, numR_suf u2⟩
    have e2 : NP.mx (44 :: u2).tail = some (numR u2) := rfl
    rw [e2] at h
    obtain ⟨x, u3, hn2⟩ : ∃ m u, numR u2 = (m, u) := ⟨_, _, rfl⟩
    rw [hn2] at h h2
    simp only at h h1 h2
    split at h
    · rename_i hh2
      cases u3 with
      | nil => cases hh2
      | cons c u4 =>
        injection h with h
        injection h with _ h
        simp only [List.tail_cons] at h
        subst h
        exact ⟨a ++ 44 :: (b ++ [c]), by rw [h1, h2]; simp⟩
    · cases h
  · cases h
theorem zsub {n : Nat} (h : n < 4000) : 4000 - n = 3999 - n + 1 := by omega
set_option maxRecDepth 100000 in
set_option maxHeartbeats 16000000 in
theorem post_rd (R : Nat) (s : ByteArray) (d : Int) (at_ : Rd) (hm : s.size ≤ 1000000) (HA0 : Rds 118 R s d at_) (hsuf : ∀ t p u, at_ t = some (p, u) → ∃ q, t = q ++ u) : Rds 109 R s d (postR NP at_) := by
  intro X t w hX hXs ht h hE
  have HX := Lib.hid hX
  have HXS := Lib.hid hXs
  clear hX hXs
  have hRlt := h.lt
  have hneZ : w.heap.size ∉ [R] := by simp; omega
  have HR1 := Lib.hid (h.al zero5)
  have HK1 := Lib.hid ((Kp.refl [R] w).alloc zero5)
  have HE1 := Lib.hid (hE.keep HK1.out)
  have HER := Lib.hid (fun (w' : World) (hk : Kp [R] w w') => hE.keep hk)
  have HZ1 := Lib.hid (Bx.new w (.int .i64 0) (.string ⟨#[]⟩) (.slice none 0 0) (.int .i64 0) (.int .i64 0) 24)
  have HA := Lib.hid (fun (w1 : World) (h0 : w.heap.size < w1.heap.size) (h1 : RS w1 R s (pos s t) d) (h2 : Er w1 R) => HA0 (w.heap.size :: X) t w1 (List.mem_cons_of_mem _ HX.out) (fun x hx => by rcases List.mem_cons.1 hx with rfl | hx; exact h0; have := HXS.out x hx; omega) ht h1 h2)
  clear h hE HA0
  have hz1 : w.heap.size < (w.alloc zero5).heap.size := by simp
  have HZL := Lib.hid hz1
  clear hz1
  rcases hx : at_ t with _ | ⟨p0, u0⟩
  · have e : postR NP at_ t = none := by unfold postR; rw [hx]
    rw [rdp_none e]
    rw [hx] at HA
    have HA2 : Hid (∀ w1 : World, w.heap.size < w1.heap.size → RS w1 R s (pos s t) d → Er w1 R → Calls Tryz.prog 118 #[.pointer (some ⟨R, 0, none⟩)] w1 (Left R w1)) := HA.out
    clear hx HA e
    go_enter Tryz.func109, Tryz.ntmps109
    go_wp2_with (go_at_call 118; (with_reducible refine (HA2.out _ HZL.out HR1.out HE1.out).mono ?_); rintro e w' ⟨b, x, rfl, hl1, hl2, hl3, hl4⟩)
    exact ⟨rfl, Left.after HK1.out ⟨b, x, rfl, hl1, hl2, hl3, hl4⟩⟩
  · obtain ⟨q0, hq0⟩ := hsuf t p0 u0 hx
    have hf0 := Lib.hid (ht.suf hq0)
    have e : postR NP at_ t = postL NP 4000 p0 u0 := by unfold postR; rw [hx]; rfl
    rw [e]
    rw [hx] at HA
    have HA2 : Hid (∀ w1 : World, w.heap.size < w1.heap.size → RS w1 R s (pos s t) d → Er w1 R → Calls Tryz.prog 118 #[.pointer (some ⟨R, 0, none⟩)] w1 fun e w' => ∃ a : Nd, e = .returned a.v ∧ a.fo .nil = p0 ∧ a.ok w' (w.heap.size :: X) ∧ Kp [R] w1 w' ∧ RS w' R s (pos s u0) d) := HA.out
    have HM := Lib.hid hm
    obtain ⟨RES, hRES⟩ : ∃ RES, postL NP 4000 p0 u0 = RES := ⟨_, rfl⟩
    rw [hRES]
    have HRES := Lib.hid hRES
    clear hx HA e hRES hq0
    go_enter Tryz.func109, Tryz.ntmps109
    go_wp2_with (go_at_call 118; (with_reducible refine (HA2.out _ HZL.out HR1.out HE1.out).mono ?_); rintro e w2 ⟨⟨k0, l0, A0, c0, mn0, mx0, kids0⟩, rfl, hp, hok, hk2, hr2⟩; have HP := Lib.hid hp; have hzz : w.heap.size < w2.heap.size := Nat.lt_of_lt_of_le HZL.out hk2.size; have hneP : w2.heap.size ∉ [R] := (by simp; omega); have HB2 := Lib.hid (Bx.new w2 (.int .i64 k0) (.string l0) (.slice A0 kids0.len c0) (.int .i64 mn0) (.int .i64 mx0) 24); have HO2 := Lib.hid ((hok.grow2 (Y := w.heap.size :: w2.heap.size :: X) (by intro y hy; rcases List.mem_cons.1 hy with e | hy; exact Or.inl (by simp [e]); rcases List.mem_cons.1 hy with e | hy; exact Or.inr (by omega); exact Or.inl (by simp [hy]))).al (cells5 k0 l0 A0 kids0.len c0 mn0 mx0)); have HK2 := Lib.hid ((HK1.out.trans hk2).alloc (cells5 k0 l0 A0 kids0.len c0 mn0 mx0)); have HR2 := Lib.hid (hr2.al (cells5 k0 l0 A0 kids0.len c0 mn0 mx0)); have HZ2 := Lib.hid ((HZ1.out.kp hk2 hneZ).al (cells5 k0 l0 A0 kids0.len c0 mn0 mx0)); have HE2 := Lib.hid ((HE1.out.keep hk2).below ((Below.refl _ _).alloc (Nat.le_refl _) (cells5 k0 l0 A0 kids0.len c0 mn0 mx0))); clear hp hok hk2 hr2)
    go_loopw [6] (fun iv wr => ∃ (i : Nat) (k : Int) (l : ByteArray) (A : Option Addr) (c : Nat) (mn mx : Int) (kids : Fo) (tc : List UInt8), iv = .int .i64 i ∧ i ≤ 4000 ∧ Hid (Sf s tc) ∧ Hid (RS wr R s (pos s tc) d) ∧ Hid (Kp [R] w wr) ∧ Hid (Er wr R) ∧ Hid (Bx wr w.heap.size (.int .i64 0) (.string ⟨#[]⟩) (.slice none 0 0) (.int .i64 0) (.int .i64 0)) ∧ Hid (Bx wr w2.heap.size (.int .i64 k) (.string l) (.slice A kids.len c) (.int .i64 mn) (.int .i64 mx)) ∧ Hid (Nd.ok wr (w.heap.size :: w2.heap.size :: X) ⟨k, l, A, c, mn, mx, kids⟩) ∧ Hid (postL NP (4000 - i) (.cons k l kids mn mx .nil) tc = RES)) (fun iv _ => 4000 - (RowKit.intOf iv).toNat)
    case atStart => exact ⟨0, k0, l0, A0, c0, mn0, mx0, kids0, u0, rfl, by omega, hf0, HR2, HK2, HE2, HZ2, HB2, HO2, by rw [show Fo.cons k0 l0 kids0 mn0 mx0 .nil = p0 from HP.out]; exact HRES⟩
    case round =>
      obtain ⟨i, k, l, A, c, mn, mx, kids, tc, rfl, hi, HF, HR5, HK5, HE5, HZ5, HB5, HO5, HRE⟩ := hrel
      clear HR2 HK2 HE2 HZ2 HB2 HO2 hf0 HRES HP HR1 HK1 HE1 HZ1
      have hpz : w.heap.size ≠ w2.heap.size := by omega
      by_cases hlt : i < 4000
      · have tl : decide ((i : Int) < 4000) = true := decide_eq_true (by omega)
        have HIa := Lib.hid (fun (w1 : World) (h1 : RS w1 R s (pos s tc) d) => is_rd R s d 42 42 rfl tc w1 h1 HF.out HM.out)
        have HIb := Lib.hid (fun (w1 : World) (h1 : RS w1 R s (pos s tc) d) => is_rd R s d 43 43 rfl tc w1 h1 HF.out HM.out)
        have HIc := Lib.hid (fun (w1 : World) (h1 : RS w1 R s (pos s tc) d) => is_rd R s d 63 63 rfl tc w1 h1 HF.out HM.out)
        have HId := Lib.hid (fun (w1 : World) (h1 : RS w1 R s (pos s tc) d) => is_rd R s d 123 123 rfl tc w1 h1 HF.out HM.out)
        cases ha : hd 42 tc
        rotate_left
        · obtain ⟨uc, rfl⟩ := hd_true ha
          rw [ha] at HIa
          simp only [if_true, List.tail_cons] at HIa
          have hfu := Lib.hid HF.out.next.1
          have hre := Lib.hid (show postL NP (4000 - (i + 1)) (.cons 6 ⟨#[]⟩ (.cons k l kids mn mx .nil) 0 0 .nil) uc = RES by
            rw [← HRE.out, zsub hlt, postL_sign 42 6 rfl (by simp), show 4000 - (i + 1) = 3999 - i from by omega]; rfl)
          clear ha
          go_wp2_with (first
            | (go_at_call 117; (with_reducible refine (HIa.out _ HR5.out).mono ?_); rintro e w6 ⟨rfl, hk6, hr6⟩; have HR6 := Lib.hid hr6; have HK6 := Lib.hid (HK5.out.trans hk6); have HZ6 := Lib.hid (HZ5.out.kp hk6 hneZ); have HB6 := Lib.hid (HB5.out.kp hk6 hneP); have HO6 := Lib.hid (hk6.nd2 (by simp [HX.out]) HO5.out); have HE6 := Lib.hid (HE5.out.keep hk6); clear hk6 hr6; have x0 := HB6.out.c0; have x1 := HB6.out.c1; have x2 := HB6.out.c2; have x3 := HB6.out.c3; have x4 := HB6.out.c4; have HBL := Lib.hid (HB6.out.al (cells5 k l A kids.len c mn mx)); have p0 := HBL.out.c0; have o0 := HBL.out.f0; have p1 := HBL.out.c1; have o1 := HBL.out.f1; have p2 := HBL.out.c2; have o2 := HBL.out.f2; have p3 := HBL.out.c3; have o3 := HBL.out.f3; have p4 := HBL.out.c4; have o4 := HBL.out.f4))
          have hlb : w6.heap.size ∉ w.heap.size :: w2.heap.size :: X := by
            have := HZ6.out.lt
            have := HB6.out.lt
            intro hx; rcases List.mem_cons.1 hx with e | hx
            · omega
            rcases List.mem_cons.1 hx with e | hx
            · omega
            · have := HXS.out _ hx; omega
          have hBN := (Bx.new w6 (.int .i64 k) (.string l) (.slice A kids.len c) (.int .i64 mn) (.int .i64 mx) 24).far5 (b2 := w2.heap.size) (v0 := .int .i64 6) (v1 := .string ⟨#[]⟩) (v2 := .slice (some ⟨w6.heap.size, 0, none⟩) 1 1) (v3 := .int .i64 0) (v4 := .int .i64 0) (by have := HB6.out.lt; omega)
          have hOK := ((HO6.out.al (cells5 k l A kids.len c mn mx)).w5 (b := w2.heap.size) (v0 := .int .i64 6) (v1 := .string ⟨#[]⟩) (v2 := .slice (some ⟨w6.heap.size, 0, none⟩) 1 1) (v3 := .int .i64 0) (v4 := .int .i64 0) (by simp))
          have hk9 := (HK6.out.alloc (cells5 k l A kids.len c mn mx)).w5 (b := w2.heap.size) (v0 := .int .i64 6) (v1 := .string ⟨#[]⟩) (v2 := .slice (some ⟨w6.heap.size, 0, none⟩) 1 1) (v3 := .int .i64 0) (v4 := .int .i64 0) (Or.inr (by omega))
          have hstep : Kp [R] w6 (put5 (w6.alloc (cells5 k l A kids.len c mn mx)) w2.heap.size (.int .i64 6) (.string ⟨#[]⟩) (.slice (some ⟨w6.heap.size, 0, none⟩) 1 1) (.int .i64 0) (.int .i64 0)) ∨ True := Or.inr trivial
          have hE9 : Er (put5 (w6.alloc (cells5 k l A kids.len c mn mx)) w2.heap.size (.int .i64 6) (.string ⟨#[]⟩) (.slice (some ⟨w6.heap.size, 0, none⟩) 1 1) (.int .i64 0) (.int .i64 0)) R := HER.out _ hk9
          exact ⟨⟨i + 1, 6, ⟨#[]⟩, some ⟨w6.heap.size, 0, none⟩, 1, 0, 0, .cons k l kids mn mx .nil, uc, by go_num, by omega, hfu, (HR6.out.al _).w5 (by omega), hk9, hE9, (HZ6.out.al _).far5 (by omega), HBL.out.w5, ⟨by simp [Fo.len], by simp, at_one hBN hOK hlb⟩, hre⟩, by simp [RowKit.intOf]; omega⟩

        cases hb : hd 43 tc
        rotate_left
        · rw [ha] at HIa
          simp only [Bool.false_eq_true, if_false] at HIa
          obtain ⟨uc, rfl⟩ := hd_true hb
          rw [hb] at HIb
          simp only [if_true, List.tail_cons] at HIb
          have hfu := Lib.hid HF.out.next.1
          have hre := Lib.hid (show postL NP (4000 - (i + 1)) (.cons 7 ⟨#[]⟩ (.cons k l kids mn mx .nil) 0 0 .nil) uc = RES by
            rw [← HRE.out, zsub hlt, postL_sign 43 7 rfl (by simp), show 4000 - (i + 1) = 3999 - i from by omega]; rfl)
          clear ha hb
          go_wp2_with (first
            | (go_at_call 117; (with_reducible refine (HIa.out _ HR5.out).mono ?_); rintro e w6 ⟨rfl, hk6, hr6⟩; have HR6 := Lib.hid hr6; have HK6 := Lib.hid (HK5.out.trans hk6); have HZ6 := Lib.hid (HZ5.out.kp hk6 hneZ); have HB6 := Lib.hid (HB5.out.kp hk6 hneP); have HO6 := Lib.hid (hk6.nd2 (by simp [HX.out]) HO5.out); have HE6 := Lib.hid (HE5.out.keep hk6); clear hk6 hr6)
            | (go_at_call 117; (with_reducible refine (HIb.out _ HR6.out).mono ?_); rintro e w7 ⟨rfl, hk7, hr7⟩; have HR7 := Lib.hid hr7; have HK7 := Lib.hid (HK6.out.trans hk7); have HZ7 := Lib.hid (HZ6.out.kp hk7 hneZ); have HB7 := Lib.hid (HB6.out.kp hk7 hneP); have HO7 := Lib.hid (hk7.nd2 (by simp [HX.out]) HO6.out); have HE7 := Lib.hid (HE6.out.keep hk7); clear hk7 hr7; have x0 := HB7.out.c0; have x1 := HB7.out.c1; have x2 := HB7.out.c2; have x3 := HB7.out.c3; have x4 := HB7.out.c4; have HBL := Lib.hid (HB7.out.al (cells5 k l A kids.len c mn mx)); have p0 := HBL.out.c0; have o0 := HBL.out.f0; have p1 := HBL.out.c1; have o1 := HBL.out.f1; have p2 := HBL.out.c2; have o2 := HBL.out.f2; have p3 := HBL.out.c3; have o3 := HBL.out.f3; have p4 := HBL.out.c4; have o4 := HBL.out.f4))
          have hlb : w7.heap.size ∉ w.heap.size :: w2.heap.size :: X := by
            have := HZ7.out.lt
            have := HB7.out.lt
            intro hx; rcases List.mem_cons.1 hx with e | hx
            · omega
            rcases List.mem_cons.1 hx with e | hx
            · omega
            · have := HXS.out _ hx; omega
          have hBN := (Bx.new w7 (.int .i64 k) (.string l) (.slice A kids.len c) (.int .i64 mn) (.int .i64 mx) 24).far5 (b2 := w2.heap.size) (v0 := .int .i64 7) (v1 := .string ⟨#[]⟩) (v2 := .slice (some ⟨w7.heap.size, 0, none⟩) 1 1) (v3 := .int .i64 0) (v4 := .int .i64 0) (by have := HB7.out.lt; omega)
          have hOK := ((HO7.out.al (cells5 k l A kids.len c mn mx)).w5 (b := w2.heap.size) (v0 := .int .i64 7) (v1 := .string ⟨#[]⟩) (v2 := .slice (some ⟨w7.heap.size, 0, none⟩) 1 1) (v3 := .int .i64 0) (v4 := .int .i64 0) (by simp))
          have hk9 := (HK7.out.alloc (cells5 k l A kids.len c mn mx)).w5 (b := w2.heap.size) (v0 := .int .i64 7) (v1 := .string ⟨#[]⟩) (v2 := .slice (some ⟨w7.heap.size, 0, none⟩) 1 1) (v3 := .int .i64 0) (v4 := .int .i64 0) (Or.inr (by omega))
          have hstep : Kp [R] w7 (put5 (w7.alloc (cells5 k l A kids.len c mn mx)) w2.heap.size (.int .i64 7) (.string ⟨#[]⟩) (.slice (some ⟨w7.heap.size, 0, none⟩) 1 1) (.int .i64 0) (.int .i64 0)) ∨ True := Or.inr trivial
          have hE9 : Er (put5 (w7.alloc (cells5 k l A kids.len c mn mx)) w2.heap.size (.int .i64 7) (.string ⟨#[]⟩) (.slice (some ⟨w7.heap.size, 0, none⟩) 1 1) (.int .i64 0) (.int .i64 0)) R := HER.out _ hk9
          exact ⟨⟨i + 1, 7, ⟨#[]⟩, some ⟨w7.heap.size, 0, none⟩, 1, 0, 0, .cons k l kids mn mx .nil, uc, by go_num, by omega, hfu, (HR7.out.al _).w5 (by omega), hk9, hE9, (HZ7.out.al _).far5 (by omega), HBL.out.w5, ⟨by simp [Fo.len], by simp, at_one hBN hOK hlb⟩, hre⟩, by simp [RowKit.intOf]; omega⟩

        cases hc : hd 63 tc
        rotate_left
        · rw [ha] at HIa
          simp only [Bool.false_eq_true, if_false] at HIa
          rw [hb] at HIb
          simp only [Bool.false_eq_true, if_false] at HIb
          obtain ⟨uc, rfl⟩ := hd_true hc
          rw [hc] at HIc
          simp only [if_true, List.tail_cons] at HIc
          have hfu := Lib.hid HF.out.next.1
          have hre := Lib.hid (show postL NP (4000 - (i + 1)) (.cons 8 ⟨#[]⟩ (.cons k l kids mn mx .nil) 0 0 .nil) uc = RES by
            rw [← HRE.out, zsub hlt, postL_sign 63 8 rfl (by simp), show 4000 - (i + 1) = 3999 - i from by omega]; rfl)
          clear ha hb hc
          go_wp2_with (first
            | (go_at_call 117; (with_reducible refine (HIa.out _ HR5.out).mono ?_); rintro e w6 ⟨rfl, hk6, hr6⟩; have HR6 := Lib.hid hr6; have HK6 := Lib.hid (HK5.out.trans hk6); have HZ6 := Lib.hid (HZ5.out.kp hk6 hneZ); have HB6 := Lib.hid (HB5.out.kp hk6 hneP); have HO6 := Lib.hid (hk6.nd2 (by simp [HX.out]) HO5.out); have HE6 := Lib.hid (HE5.out.keep hk6); clear hk6 hr6)
            | (go_at_call 117; (with_reducible refine (HIb.out _ HR6.out).mono ?_); rintro e w7 ⟨rfl, hk7, hr7⟩; have HR7 := Lib.hid hr7; have HK7 := Lib.hid (HK6.out.trans hk7); have HZ7 := Lib.hid (HZ6.out.kp hk7 hneZ); have HB7 := Lib.hid (HB6.out.kp hk7 hneP); have HO7 := Lib.hid (hk7.nd2 (by simp [HX.out]) HO6.out); have HE7 := Lib.hid (HE6.out.keep hk7); clear hk7 hr7)
            | (go_at_call 117; (with_reducible refine (HIc.out _ HR7.out).mono ?_); rintro e w8 ⟨rfl, hk8, hr8⟩; have HR8 := Lib.hid hr8; have HK8 := Lib.hid (HK7.out.trans hk8); have HZ8 := Lib.hid (HZ7.out.kp hk8 hneZ); have HB8 := Lib.hid (HB7.out.kp hk8 hneP); have HO8 := Lib.hid (hk8.nd2 (by simp [HX.out]) HO7.out); have HE8 := Lib.hid (HE7.out.keep hk8); clear hk8 hr8; have x0 := HB8.out.c0; have x1 := HB8.out.c1; have x2 := HB8.out.c2; have x3 := HB8.out.c3; have x4 := HB8.out.c4; have HBL := Lib.hid (HB8.out.al (cells5 k l A kids.len c mn mx)); have p0 := HBL.out.c0; have o0 := HBL.out.f0; have p1 := HBL.out.c1; have o1 := HBL.out.f1; have p2 := HBL.out.c2; have o2 := HBL.out.f2; have p3 := HBL.out.c3; have o3 := HBL.out.f3; have p4 := HBL.out.c4; have o4 := HBL.out.f4))
          have hlb : w8.heap.size ∉ w.heap.size :: w2.heap.size :: X := by
            have := HZ8.out.lt
            have := HB8.out.lt
            intro hx; rcases List.mem_cons.1 hx with e | hx
            · omega
            rcases List.mem_cons.1 hx with e | hx
            · omega
            · have := HXS.out _ hx; omega
          have hBN := (Bx.new w8 (.int .i64 k) (.string l) (.slice A kids.len c) (.int .i64 mn) (.int .i64 mx) 24).far5 (b2 := w2.heap.size) (v0 := .int .i64 8) (v1 := .string ⟨#[]⟩) (v2 := .slice (some ⟨w8.heap.size, 0, none⟩) 1 1) (v3 := .int .i64 0) (v4 := .int .i64 0) (by have := HB8.out.lt; omega)
          have hOK := ((HO8.out.al (cells5 k l A kids.len c mn mx)).w5 (b := w2.heap.size) (v0 := .int .i64 8) (v1 := .string ⟨#[]⟩) (v2 := .slice (some ⟨w8.heap.size, 0, none⟩) 1 1) (v3 := .int .i64 0) (v4 := .int .i64 0) (by simp))
          have hk9 := (HK8.out.alloc (cells5 k l A kids.len c mn mx)).w5 (b := w2.heap.size) (v0 := .int .i64 8) (v1 := .string ⟨#[]⟩) (v2 := .slice (some ⟨w8.heap.size, 0, none⟩) 1 1) (v3 := .int .i64 0) (v4 := .int .i64 0) (Or.inr (by omega))
          have hstep : Kp [R] w8 (put5 (w8.alloc (cells5 k l A kids.len c mn mx)) w2.heap.size (.int .i64 8) (.string ⟨#[]⟩) (.slice (some ⟨w8.heap.size, 0, none⟩) 1 1) (.int .i64 0) (.int .i64 0)) ∨ True := Or.inr trivial
          have hE9 : Er (put5 (w8.alloc (cells5 k l A kids.len c mn mx)) w2.heap.size (.int .i64 8) (.string ⟨#[]⟩) (.slice (some ⟨w8.heap.size, 0, none⟩) 1 1) (.int .i64 0) (.int .i64 0)) R := HER.out _ hk9
          exact ⟨⟨i + 1, 8, ⟨#[]⟩, some ⟨w8.heap.size, 0, none⟩, 1, 0, 0, .cons k l kids mn mx .nil, uc, by go_num, by omega, hfu, (HR8.out.al _).w5 (by omega), hk9, hE9, (HZ8.out.al _).far5 (by omega), HBL.out.w5, ⟨by simp [Fo.len], by simp, at_one hBN hOK hlb⟩, hre⟩, by simp [RowKit.intOf]; omega⟩

        cases hd : hd 123 tc
        rotate_left
        · rw [ha] at HIa
          simp only [Bool.false_eq_true, if_false] at HIa
          rw [hb] at HIb
          simp only [Bool.false_eq_true, if_false] at HIb
          rw [hc] at HIc
          simp only [Bool.false_eq_true, if_false] at HIc
          obtain ⟨uc, rfl⟩ := hd_true hd
          rw [hd] at HId
          simp only [if_true, List.tail_cons] at HId
          have hfu := Lib.hid HF.out.next.1
          have HRP := Lib.hid (fun (w1 : World) (h0 : w2.heap.size < w1.heap.size) (h1 : RS w1 R s (pos s uc) d) (h2 : Er w1 R) (h3 : Nd.ok w1 (w.heap.size :: w2.heap.size :: X) ⟨k, l, A, c, mn, mx, kids⟩) => rep_rd R s d uc ⟨k, l, A, c, mn, mx, kids⟩ w1 h1 hfu.out HM.out h2 (w.heap.size :: w2.heap.size :: X) (by simp [HX.out]) (fun x hx => by
            rcases List.mem_cons.1 hx with e | hx
            · omega
            rcases List.mem_cons.1 hx with e | hx
            · omega
            · have := HXS.out _ hx; omega) h3)
          rcases hrp : repR NP (.cons k l kids mn mx .nil) uc with _ | ⟨q, v⟩
          · have hre := Lib.hid (show RES = none by
              rw [← HRE.out, zsub hlt, postL_rep, hrp])
            have HRP2 : Hid (∀ w1 : World, w2.heap.size < w1.heap.size → RS w1 R s (pos s uc) d → Er w1 R → Nd.ok w1 (w.heap.size :: w2.heap.size :: X) ⟨k, l, A, c, mn, mx, kids⟩ → Calls Tryz.prog 119 #[.pointer (some ⟨R, 0, none⟩), .agg #[.int .i64 k, .string l, .slice A kids.len c, .int .i64 mn, .int .i64 mx]] w1 (Left R w1)) := fun w1 h0 h1 h2 h3 => by
              have := HRP.out w1 h0 h1 h2 h3
              rwa [rdp_none (r := repR NP (Nd.fo ⟨k, l, A, c, mn, mx, kids⟩ .nil) uc) hrp] at this
            rw [rdp_none hre.out]
            clear hrp HRP ha hb hc hd
            go_wp2_with (first
              | (go_at_call 117; (with_reducible refine (HIa.out _ HR5.out).mono ?_); rintro e w6 ⟨rfl, hk6, hr6⟩; have HR6 := Lib.hid hr6; have HK6 := Lib.hid (HK5.out.trans hk6); have HZ6 := Lib.hid (HZ5.out.kp hk6 hneZ); have HB6 := Lib.hid (HB5.out.kp hk6 hneP); have HO6 := Lib.hid (hk6.nd2 (by simp [HX.out]) HO5.out); have HE6 := Lib.hid (HE5.out.keep hk6); clear hk6 hr6)
              | (go_at_call 117; (with_reducible refine (HIb.out _ HR6.out).mono ?_); rintro e w7 ⟨rfl, hk7, hr7⟩; have HR7 := Lib.hid hr7; have HK7 := Lib.hid (HK6.out.trans hk7); have HZ7 := Lib.hid (HZ6.out.kp hk7 hneZ); have HB7 := Lib.hid (HB6.out.kp hk7 hneP); have HO7 := Lib.hid (hk7.nd2 (by simp [HX.out]) HO6.out); have HE7 := Lib.hid (HE6.out.keep hk7); clear hk7 hr7)
              | (go_at_call 117; (with_reducible refine (HIc.out _ HR7.out).mono ?_); rintro e w8 ⟨rfl, hk8, hr8⟩; have HR8 := Lib.hid hr8; have HK8 := Lib.hid (HK7.out.trans hk8); have HZ8 := Lib.hid (HZ7.out.kp hk8 hneZ); have HB8 := Lib.hid (HB7.out.kp hk8 hneP); have HO8 := Lib.hid (hk8.nd2 (by simp [HX.out]) HO7.out); have HE8 := Lib.hid (HE7.out.keep hk8); clear hk8 hr8)
              | (go_at_call 117; (with_reducible refine (HId.out _ HR8.out).mono ?_); rintro e w9 ⟨rfl, hk9, hr9⟩; have HR9 := Lib.hid hr9; have HK9 := Lib.hid (HK8.out.trans hk9); have HZ9 := Lib.hid (HZ8.out.kp hk9 hneZ); have HB9 := Lib.hid (HB8.out.kp hk9 hneP); have HO9 := Lib.hid (hk9.nd2 (by simp [HX.out]) HO8.out); have HE9 := Lib.hid (HE8.out.keep hk9); clear hk9 hr9; have x0 := HB9.out.c0; have x1 := HB9.out.c1; have x2 := HB9.out.c2; have x3 := HB9.out.c3; have x4 := HB9.out.c4)
              | (go_at_call 119; (with_reducible refine (HRP2.out _ HB9.out.lt HR9.out HE9.out HO9.out).mono ?_); rintro e w' ⟨b, x, rfl, hl1, hl2, hl3, hl4⟩))
            exact ⟨rfl, Left.after HK9.out ⟨b, x, rfl, hl1, hl2, hl3, hl4⟩⟩
          · have hre := Lib.hid (show postL NP (4000 - (i + 1)) q v = RES by
              rw [← HRE.out, zsub hlt, postL_rep, hrp, show 4000 - (i + 1) = 3999 - i from by omega])
            obtain ⟨qs, hqs⟩ := repR_suf hrp
            have hfv := Lib.hid (hfu.out.suf hqs)
            have HRP2 : Hid (∀ w1 : World, w2.heap.size < w1.heap.size → RS w1 R s (pos s uc) d → Er w1 R → Nd.ok w1 (w.heap.size :: w2.heap.size :: X) ⟨k, l, A, c, mn, mx, kids⟩ → Calls Tryz.prog 119 #[.pointer (some ⟨R, 0, none⟩), .agg #[.int .i64 k, .string l, .slice A kids.len c, .int .i64 mn, .int .i64 mx]] w1 fun e w' => ∃ a : Nd, e = .returned a.v ∧ a.fo .nil = q ∧ a.ok w' (w.heap.size :: w2.heap.size :: X) ∧ Kp [R] w1 w' ∧ RS w' R s (pos s v) d) := fun w1 h0 h1 h2 h3 => by
              have := HRP.out w1 h0 h1 h2 h3
              rwa [rdp_some (r := repR NP (Nd.fo ⟨k, l, A, c, mn, mx, kids⟩ .nil) uc) hrp] at this
            clear hrp HRP hqs ha hb hc hd
            go_wp2_with (first
              | (go_at_call 117; (with_reducible refine (HIa.out _ HR5.out).mono ?_); rintro e w6 ⟨rfl, hk6, hr6⟩; have HR6 := Lib.hid hr6; have HK6 := Lib.hid (HK5.out.trans hk6); have HZ6 := Lib.hid (HZ5.out.kp hk6 hneZ); have HB6 := Lib.hid (HB5.out.kp hk6 hneP); have HO6 := Lib.hid (hk6.nd2 (by simp [HX.out]) HO5.out); have HE6 := Lib.hid (HE5.out.keep hk6); clear hk6 hr6)
              | (go_at_call 117; (with_reducible refine (HIb.out _ HR6.out).mono ?_); rintro e w7 ⟨rfl, hk7, hr7⟩; have HR7 := Lib.hid hr7; have HK7 := Lib.hid (HK6.out.trans hk7); have HZ7 := Lib.hid (HZ6.out.kp hk7 hneZ); have HB7 := Lib.hid (HB6.out.kp hk7 hneP); have HO7 := Lib.hid (hk7.nd2 (by simp [HX.out]) HO6.out); have HE7 := Lib.hid (HE6.out.keep hk7); clear hk7 hr7)
              | (go_at_call 117; (with_reducible refine (HIc.out _ HR7.out).mono ?_); rintro e w8 ⟨rfl, hk8, hr8⟩; have HR8 := Lib.hid hr8; have HK8 := Lib.hid (HK7.out.trans hk8); have HZ8 := Lib.hid (HZ7.out.kp hk8 hneZ); have HB8 := Lib.hid (HB7.out.kp hk8 hneP); have HO8 := Lib.hid (hk8.nd2 (by simp [HX.out]) HO7.out); have HE8 := Lib.hid (HE7.out.keep hk8); clear hk8 hr8)
              | (go_at_call 117; (with_reducible refine (HId.out _ HR8.out).mono ?_); rintro e w9 ⟨rfl, hk9, hr9⟩; have HR9 := Lib.hid hr9; have HK9 := Lib.hid (HK8.out.trans hk9); have HZ9 := Lib.hid (HZ8.out.kp hk9 hneZ); have HB9 := Lib.hid (HB8.out.kp hk9 hneP); have HO9 := Lib.hid (hk9.nd2 (by simp [HX.out]) HO8.out); have HE9 := Lib.hid (HE8.out.keep hk9); clear hk9 hr9; have x0 := HB9.out.c0; have x1 := HB9.out.c1; have x2 := HB9.out.c2; have x3 := HB9.out.c3; have x4 := HB9.out.c4)
              | (go_at_call 119; (with_reducible refine (HRP2.out _ HB9.out.lt HR9.out HE9.out HO9.out).mono ?_); rintro e w10 ⟨⟨k1, l1, A1, c1, mn1, mx1, kids1⟩, rfl, hq, hok, hk10, hr10⟩; clear x0 x1 x2 x3 x4; have HQ := Lib.hid hq; have HO10 := Lib.hid hok; have HR10 := Lib.hid hr10; have HK10 := Lib.hid (HK9.out.trans hk10); have HZ10 := Lib.hid (HZ9.out.kp hk10 hneZ); have HB10 := Lib.hid (HB9.out.kp hk10 hneP); have p0 := HB10.out.c0; have o0 := HB10.out.f0; have p1 := HB10.out.c1; have o1 := HB10.out.f1; have p2 := HB10.out.c2; have o2 := HB10.out.f2; have p3 := HB10.out.c3; have o3 := HB10.out.f3; have p4 := HB10.out.c4; have o4 := HB10.out.f4; clear hq hok hk10 hr10))
            have hk9 := HK10.out.w5 (b := w2.heap.size) (v0 := .int .i64 k1) (v1 := .string l1) (v2 := .slice A1 kids1.len c1) (v3 := .int .i64 mn1) (v4 := .int .i64 mx1) (Or.inr (by omega))
            exact ⟨⟨i + 1, k1, l1, A1, c1, mn1, mx1, kids1, v, by go_num, by omega, hfv, HR10.out.w5 (by omega), hk9, HER.out _ hk9, HZ10.out.far5 (by omega), HB10.out.w5, HO10.out.w5 (by simp), by rw [show Fo.cons k1 l1 kids1 mn1 mx1 .nil = q from HQ.out]; exact hre⟩, by simp [RowKit.intOf]; omega⟩

        rw [ha] at HIa
        rw [hb] at HIb
        rw [hc] at HIc
        rw [hd] at HId
        simp only [Bool.false_eq_true, if_false] at HIa HIb HIc HId
        have hre := Lib.hid (show RES = some (.cons k l kids mn mx .nil, tc) by rw [← HRE.out, postL_none ha hb hc hd])
        rw [rdp_some hre.out]
        clear ha hb hc hd
        go_wp2_with (first
          | (go_at_call 117; (with_reducible refine (HIa.out _ HR5.out).mono ?_); rintro e w6 ⟨rfl, hk6, hr6⟩; have HR6 := Lib.hid hr6; have HK6 := Lib.hid (HK5.out.trans hk6); have HZ6 := Lib.hid (HZ5.out.kp hk6 hneZ); have HB6 := Lib.hid (HB5.out.kp hk6 hneP); have HO6 := Lib.hid (hk6.nd2 (by simp [HX.out]) HO5.out); have HE6 := Lib.hid (HE5.out.keep hk6); clear hk6 hr6)
          | (go_at_call 117; (with_reducible refine (HIb.out _ HR6.out).mono ?_); rintro e w7 ⟨rfl, hk7, hr7⟩; have HR7 := Lib.hid hr7; have HK7 := Lib.hid (HK6.out.trans hk7); have HZ7 := Lib.hid (HZ6.out.kp hk7 hneZ); have HB7 := Lib.hid (HB6.out.kp hk7 hneP); have HO7 := Lib.hid (hk7.nd2 (by simp [HX.out]) HO6.out); have HE7 := Lib.hid (HE6.out.keep hk7); clear hk7 hr7)
          | (go_at_call 117; (with_reducible refine (HIc.out _ HR7.out).mono ?_); rintro e w8 ⟨rfl, hk8, hr8⟩; have HR8 := Lib.hid hr8; have HK8 := Lib.hid (HK7.out.trans hk8); have HZ8 := Lib.hid (HZ7.out.kp hk8 hneZ); have HB8 := Lib.hid (HB7.out.kp hk8 hneP); have HO8 := Lib.hid (hk8.nd2 (by simp [HX.out]) HO7.out); have HE8 := Lib.hid (HE7.out.keep hk8); clear hk8 hr8)
          | (go_at_call 117; (with_reducible refine (HId.out _ HR8.out).mono ?_); rintro e w9 ⟨rfl, hk9, hr9⟩; have HR9 := Lib.hid hr9; have HK9 := Lib.hid (HK8.out.trans hk9); have HZ9 := Lib.hid (HZ8.out.kp hk9 hneZ); have HB9 := Lib.hid (HB8.out.kp hk9 hneP); have HO9 := Lib.hid (hk9.nd2 (by simp [HX.out]) HO8.out); have HE9 := Lib.hid (HE8.out.keep hk9); clear hk9 hr9; have x0 := HB9.out.c0; have z0 := HZ9.out.c0; have y0 := HZ9.out.f0; have x1 := HB9.out.c1; have z1 := HZ9.out.c1; have y1 := HZ9.out.f1; have x2 := HB9.out.c2; have z2 := HZ9.out.c2; have y2 := HZ9.out.f2; have x3 := HB9.out.c3; have z3 := HZ9.out.c3; have y3 := HZ9.out.f3; have x4 := HB9.out.c4; have z4 := HZ9.out.c4; have y4 := HZ9.out.f4))
        exact bodyPost_ret (v := .agg #[.int .i64 k, .string l, .slice A kids.len c, .int .i64 mn, .int .i64 mx]) (by simp [results, Tryz.results109, go_sem, z0, z1, z2, z3, z4]) rfl ⟨⟨k, l, A, c, mn, mx, kids⟩, rfl, rfl, (HO9.out.w5 (b := w.heap.size) (by simp)).less (by intro y hy; simp [hy]), HK9.out.w5 (Or.inr (Nat.le_refl _)), HR9.out.w5 (by omega)⟩
      · have hi4 : i = 4000 := by omega
        subst hi4
        have tl : decide ((4000 : Int) < 4000) = false := by decide
        have hre := Lib.hid (show RES = some (.cons k l kids mn mx .nil, tc) from HRE.out.symm)
        have x0 := HB5.out.c0
        have z0 := HZ5.out.c0
        have y0 := HZ5.out.f0
        have x1 := HB5.out.c1
        have z1 := HZ5.out.c1
        have y1 := HZ5.out.f1
        have x2 := HB5.out.c2
        have z2 := HZ5.out.c2
        have y2 := HZ5.out.f2
        have x3 := HB5.out.c3
        have z3 := HZ5.out.c3
        have y3 := HZ5.out.f3
        have x4 := HB5.out.c4
        have z4 := HZ5.out.c4
        have y4 := HZ5.out.f4
        go_wp2_with fail
        exact bodyPost_ret (v := .agg #[.int .i64 k, .string l, .slice A kids.len c, .int .i64 mn, .int .i64 mx]) (by simp [results, Tryz.results109, go_sem, z0, z1, z2, z3, z4]) rfl (by rw [rdp_some hre.out]; exact ⟨⟨k, l, A, c, mn, mx, kids⟩, rfl, rfl, (HO5.out.w5 (b := w.heap.size) (by simp)).less (by intro y hy; simp [hy]), HK5.out.w5 (Or.inr (Nat.le_refl _)), HR5.out.w5 (by omega)⟩)
end Go.Proofs.YtpaehicfndkliaaGreatDoor.Pa
