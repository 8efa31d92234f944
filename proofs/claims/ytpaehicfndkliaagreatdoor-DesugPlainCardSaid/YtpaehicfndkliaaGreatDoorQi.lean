/- The walk of the reader's 'atom'. Condition: the reader lies in memory; what 'alt' does is known. -/
import Derived.Test.YtpaehicfndkliaaGreatDoorQh
namespace Go.Proofs.YtpaehicfndkliaaGreatDoor.Pa
open Go.RowKit Go.Lib Na Go.PN

theorem name_yes {R : Nat} {s : ByteArray} {d : Int} {t l v : List UInt8} (w : World) (hn : nameR t = some (l, v)) (h : RS w R s (pos s t) d) (ht : Sf s t) (hm : s.size ≤ 1000000) :
    Calls Tryz.prog 125 #[.pointer (some ⟨R, 0, none⟩)] w fun e w' => e = .returned (strV l) ∧ Kp [R] w w' ∧ RS w' R s (pos s v) d := by
  have h1 := name_rd2 R s d t w h ht hm
  have e : NameRd R s d t w = fun e w' => e = .returned (strV l) ∧ Kp [R] w w' ∧ RS w' R s (pos s v) d := by
    funext e w'; unfold NameRd; rw [hn]
  rwa [e] at h1
theorem name_no {R : Nat} {s : ByteArray} {d : Int} {t : List UInt8} (w : World) (hn : nameR t = none) (h : RS w R s (pos s t) d) (ht : Sf s t) (hm : s.size ≤ 1000000) :
    Calls Tryz.prog 125 #[.pointer (some ⟨R, 0, none⟩)] w (Left R w) := by
  have h1 := name_rd2 R s d t w h ht hm
  have e : NameRd R s d t w = Left R w := by
    funext e w'; unfold NameRd; rw [hn]
  rwa [e] at h1
theorem rdp_some {R : Nat} {X : List Nat} {s : ByteArray} {d : Int} {r : Option (Fo × List UInt8)} {w : World} {p : Fo} {u : List UInt8} (h : r = some (p, u)) : RdP R X s d r w = fun e w' => ∃ a : Nd, e = .returned a.v ∧ a.fo .nil = p ∧ a.ok w' X ∧ Kp [R] w w' ∧ RS w' R s (pos s u) d := by
  subst h; rfl
theorem rdp_none {R : Nat} {X : List Nat} {s : ByteArray} {d : Int} {r : Option (Fo × List UInt8)} {w : World} (h : r = none) : RdP R X s d r w = Left R w := by
  subst h; rfl
/-- What is asked of a part of the reader. -/
def Rds (f : Nat) (R : Nat) (s : ByteArray) (d : Int) (sp : Rd) : Prop :=
  ∀ (X : List Nat) (t : List UInt8) (w : World), R ∈ X → (∀ x ∈ X, x < w.heap.size) → Sf s t → RS w R s (pos s t) d → Er w R → Calls Tryz.prog f #[.pointer (some ⟨R, 0, none⟩)] w (RdP R X s d (sp t) w)
theorem atomR_esc {alt : Rd} {u : List UInt8} : atomR alt (94 :: u) = (nameR u).map fun x => (one1 3 x.1 .nil 0 0, x.2) := by
  unfold atomR; simp only [if_true]
theorem atomR_br {alt : Rd} {u : List UInt8} : atomR alt (40 :: u) = if u.head? = some 41 then some (one1 1 [] .nil 0 0, u.tail)
      else match alt u with
        | some (p, v) => if v.head? = some 41 then some (p, v.tail) else none
        | none => none := by
  unfold atomR; simp only; rw [if_neg (by decide), if_pos trivial]
  split
  · rfl
  · cases alt u <;> rfl
theorem atomR_name {alt : Rd} {t : List UInt8} (h1 : hd 94 t = false) (h2 : hd 40 t = false) : atomR alt t = (nameR t).map fun x => (one1 2 x.1 .nil 0 0, x.2) := by
  cases t with
  | nil => rfl
  | cons c u =>
    unfold atomR; simp only
    rw [if_neg (by intro e; subst e; simp [hd] at h1), if_neg (by intro e; subst e; simp [hd] at h2)]
set_option maxRecDepth 100000 in
set_option maxHeartbeats 8000000 in
theorem atom_rd (R : Nat) (s : ByteArray) (d : Int) (alt : Rd) (hm : s.size ≤ 1000000) (HA0 : Rds 88 R s d alt) (hsuf : ∀ t p u, alt t = some (p, u) → ∃ q, t = q ++ u) : Rds 118 R s d (atomR alt) := by
  intro X t w hX hXs ht h hE
  have HX := Lib.hid hX
  have HXS := Lib.hid hXs
  clear hX hXs
  have hRlt := h.lt
  have hne : w.heap.size ∉ [R] := by simp; omega
  have HR1 := Lib.hid (h.al zero5)
  have HK1 := Lib.hid ((Kp.refl [R] w).alloc zero5)
  have HE1 := Lib.hid (hE.keep HK1.out)
  have HZ1 := Lib.hid (Bx.new w (.int .i64 0) (.string ⟨#[]⟩) (.slice none 0 0) (.int .i64 0) (.int .i64 0) 24)
  have HIa := Lib.hid (fun (w1 : World) (h1 : RS w1 R s (pos s t) d) => is_rd R s d 94 94 rfl t w1 h1 ht hm)
  have HA := Lib.hid HA0
  clear h hE HA0
  cases h94 : hd 94 t
  · rw [h94] at HIa
    simp only [Bool.false_eq_true, if_false] at HIa
    have HIb := Lib.hid (fun (w1 : World) (h1 : RS w1 R s (pos s t) d) => is_rd R s d 40 40 rfl t w1 h1 ht hm)
    cases h40 : hd 40 t
    · rw [h40] at HIb
      simp only [Bool.false_eq_true, if_false] at HIb
      rw [atomR_name h94 h40]
      rcases hn : nameR t with _ | ⟨l, v⟩
      · have HN := Lib.hid (fun (w1 : World) (h1 : RS w1 R s (pos s t) d) => name_no w1 hn h1 ht hm)
        rw [rdp_none (by rfl)]
        clear h94 h40 hn
        go_enter Tryz.func118, Tryz.ntmps118
        go_wp2_with (first
          | (go_at_call 117; (with_reducible refine (HIa.out _ HR1.out).mono ?_); rintro e w2 ⟨rfl, hk2, hr2⟩; have HR2 := Lib.hid hr2; have HK2 := Lib.hid (HK1.out.trans hk2); have HZ2 := Lib.hid (HZ1.out.kp hk2 hne); have HE2 := Lib.hid (HE1.out.keep hk2); clear hk2 hr2)
          | (go_at_call 117; (with_reducible refine (HIb.out _ HR2.out).mono ?_); rintro e w3 ⟨rfl, hk3, hr3⟩; have HR3 := Lib.hid hr3; have HK3 := Lib.hid (HK2.out.trans hk3); have HZ3 := Lib.hid (HZ2.out.kp hk3 hne); have HE3 := Lib.hid (HE2.out.keep hk3); clear hk3 hr3)
          | (go_at_call 125; (with_reducible refine (HN.out _ HR3.out).mono ?_); rintro e w' ⟨b, x, rfl, hl1, hl2, hl3, hl4⟩))
        exact ⟨rfl, Left.after HK3.out ⟨b, x, rfl, hl1, hl2, hl3, hl4⟩⟩
      · have HN := Lib.hid (fun (w1 : World) (h1 : RS w1 R s (pos s t) d) => name_yes w1 hn h1 ht hm)
        rw [rdp_some (by rfl)]
        clear h94 h40 hn
        go_enter Tryz.func118, Tryz.ntmps118
        go_wp2_with (first
          | (go_at_call 117; (with_reducible refine (HIa.out _ HR1.out).mono ?_); rintro e w2 ⟨rfl, hk2, hr2⟩; have HR2 := Lib.hid hr2; have HK2 := Lib.hid (HK1.out.trans hk2); have HZ2 := Lib.hid (HZ1.out.kp hk2 hne); have HE2 := Lib.hid (HE1.out.keep hk2); clear hk2 hr2)
          | (go_at_call 117; (with_reducible refine (HIb.out _ HR2.out).mono ?_); rintro e w3 ⟨rfl, hk3, hr3⟩; have HR3 := Lib.hid hr3; have HK3 := Lib.hid (HK2.out.trans hk3); have HZ3 := Lib.hid (HZ2.out.kp hk3 hne); have HE3 := Lib.hid (HE2.out.keep hk3); clear hk3 hr3)
          | (go_at_call 125; (with_reducible refine (HN.out _ HR3.out).mono ?_); rintro e w4 ⟨rfl, hk4, hr4⟩; have HR4 := Lib.hid hr4; have HK4 := Lib.hid (HK3.out.trans hk4); have HZ4 := Lib.hid (HZ3.out.kp hk4 hne); clear hk4 hr4; have z0 := HZ4.out.c0; have y0 := HZ4.out.f0; have z1 := HZ4.out.c1; have y1 := HZ4.out.f1; have z2 := HZ4.out.c2; have y2 := HZ4.out.f2; have z3 := HZ4.out.c3; have y3 := HZ4.out.f3; have z4 := HZ4.out.c4; have y4 := HZ4.out.f4))
        exact bodyPost_ret (v := .agg #[.int .i64 2, strV l, .slice none 0 0, .int .i64 0, .int .i64 0]) (by simp [results, Tryz.results118, go_sem, z0, z1, z2, z3, z4]) rfl ⟨⟨2, ⟨l.toArray⟩, none, 0, 0, 0, .nil⟩, rfl, rfl, ⟨Nat.le_refl _, by simp, trivial⟩, HK4.out.w5 (Or.inr (Nat.le_refl _)), HR4.out.w5 (by omega)⟩
    · obtain ⟨u, rfl⟩ := hd_true h40
      rw [h40] at HIb
      simp only [if_true, List.tail_cons] at HIb
      have hf := ht.next.1
      have HIc := Lib.hid (fun (w1 : World) (h1 : RS w1 R s (pos s u) d) => is_rd R s d 41 41 rfl u w1 h1 hf hm)
      rw [atomR_br]
      cases h41 : hd 41 u
      · rw [h41] at HIc
        simp only [Bool.false_eq_true, if_false] at HIc
        rw [if_neg (hd_false h41)]
        have HAL := Lib.hid (fun (w1 : World) (h0 : w.heap.size < w1.heap.size) (h1 : RS w1 R s (pos s u) d) (h2 : Er w1 R) => HA.out (w.heap.size :: X) u w1 (List.mem_cons_of_mem _ HX.out) (fun x hx => by rcases List.mem_cons.1 hx with rfl | hx; exact h0; have := HXS.out x hx; omega) hf h1 h2)
        rcases hx : alt u with _ | ⟨p, v⟩
        · rw [rdp_none (by rfl)]
          rw [hx] at HAL
          have HAL2 : Hid (∀ w1 : World, w.heap.size < w1.heap.size → RS w1 R s (pos s u) d → Er w1 R → Calls Tryz.prog 88 #[.pointer (some ⟨R, 0, none⟩)] w1 (Left R w1)) := HAL.out
          clear h94 h40 h41 hx HAL
          go_enter Tryz.func118, Tryz.ntmps118
          go_wp2_with (first
            | (go_at_call 117; (with_reducible refine (HIa.out _ HR1.out).mono ?_); rintro e w2 ⟨rfl, hk2, hr2⟩; have HR2 := Lib.hid hr2; have HK2 := Lib.hid (HK1.out.trans hk2); have HZ2 := Lib.hid (HZ1.out.kp hk2 hne); have HE2 := Lib.hid (HE1.out.keep hk2); clear hk2 hr2)
            | (go_at_call 117; (with_reducible refine (HIb.out _ HR2.out).mono ?_); rintro e w3 ⟨rfl, hk3, hr3⟩; have HR3 := Lib.hid hr3; have HK3 := Lib.hid (HK2.out.trans hk3); have HZ3 := Lib.hid (HZ2.out.kp hk3 hne); have HE3 := Lib.hid (HE2.out.keep hk3); clear hk3 hr3)
            | (go_at_call 117; (with_reducible refine (HIc.out _ HR3.out).mono ?_); rintro e w4 ⟨rfl, hk4, hr4⟩; have HR4 := Lib.hid hr4; have HK4 := Lib.hid (HK3.out.trans hk4); have HZ4 := Lib.hid (HZ3.out.kp hk4 hne); have HE4 := Lib.hid (HE3.out.keep hk4); clear hk4 hr4)
            | (go_at_call 88; (with_reducible refine (HAL2.out _ HZ4.out.lt HR4.out HE4.out).mono ?_); rintro e w' ⟨b, x, rfl, hl1, hl2, hl3, hl4⟩))
          exact ⟨rfl, Left.after HK4.out ⟨b, x, rfl, hl1, hl2, hl3, hl4⟩⟩
        · rw [hx] at HAL
          have HAL2 : Hid (∀ w1 : World, w.heap.size < w1.heap.size → RS w1 R s (pos s u) d → Er w1 R → Calls Tryz.prog 88 #[.pointer (some ⟨R, 0, none⟩)] w1 fun e w' => ∃ a : Nd, e = .returned a.v ∧ a.fo .nil = p ∧ a.ok w' (w.heap.size :: X) ∧ Kp [R] w1 w' ∧ RS w' R s (pos s v) d) := HAL.out
          obtain ⟨q, hq⟩ := hsuf u p v hx
          have hfv := hf.suf hq
          have HId := Lib.hid (fun (w1 : World) (h1 : RS w1 R s (pos s v) d) => is_rd R s d 41 41 rfl v w1 h1 hfv hm)
          simp only
          have ALT : True := trivial
          cases h41b : hd 41 v
          · rw [h41b] at HId
            simp only [Bool.false_eq_true, if_false] at HId
            rw [if_neg (hd_false h41b), rdp_none (by rfl)]
            have HB := Lib.hid (fun (w1 : World) (h1 : RS w1 R s (pos s v) d) => bad_any R s _ d w1 h1)
            clear h94 h40 h41 hx HAL h41b
            go_enter Tryz.func118, Tryz.ntmps118
            go_wp2_with (first
              | (go_at_call 117; (with_reducible refine (HIa.out _ HR1.out).mono ?_); rintro e w2 ⟨rfl, hk2, hr2⟩; have HR2 := Lib.hid hr2; have HK2 := Lib.hid (HK1.out.trans hk2); have HZ2 := Lib.hid (HZ1.out.kp hk2 hne); have HE2 := Lib.hid (HE1.out.keep hk2); clear hk2 hr2)
              | (go_at_call 117; (with_reducible refine (HIb.out _ HR2.out).mono ?_); rintro e w3 ⟨rfl, hk3, hr3⟩; have HR3 := Lib.hid hr3; have HK3 := Lib.hid (HK2.out.trans hk3); have HZ3 := Lib.hid (HZ2.out.kp hk3 hne); have HE3 := Lib.hid (HE2.out.keep hk3); clear hk3 hr3)
              | (go_at_call 117; (with_reducible refine (HIc.out _ HR3.out).mono ?_); rintro e w4 ⟨rfl, hk4, hr4⟩; have HR4 := Lib.hid hr4; have HK4 := Lib.hid (HK3.out.trans hk4); have HZ4 := Lib.hid (HZ3.out.kp hk4 hne); have HE4 := Lib.hid (HE3.out.keep hk4); clear hk4 hr4)
              | (go_at_call 88; (with_reducible refine (HAL2.out _ HZ4.out.lt HR4.out HE4.out).mono ?_); rintro e w5 ⟨⟨k, l, A, c, mn, mx, kids⟩, rfl, hp, hok, hk5, hr5⟩; have HP := Lib.hid hp; have HOK := Lib.hid hok; have HK5 := Lib.hid ((HK4.out.trans hk5).alloc (cells5 k l A kids.len c mn mx)); have HR5 := Lib.hid (hr5.al (cells5 k l A kids.len c mn mx)); have HZ5 := Lib.hid ((HZ4.out.kp hk5 hne).al (cells5 k l A kids.len c mn mx)); have HE5 := Lib.hid ((HE4.out.keep hk5).below ((Below.refl _ _).alloc (Nat.le_refl _) (cells5 k l A kids.len c mn mx))); clear hp hok hk5 hr5)
              | (go_at_call 117; (with_reducible refine (HId.out _ HR5.out).mono ?_); rintro e w6 ⟨rfl, hk6, hr6⟩; have HR6 := Lib.hid hr6; have HK6 := Lib.hid (HK5.out.trans hk6); have HZ6 := Lib.hid (HZ5.out.kp hk6 hne); have HE6 := Lib.hid (HE5.out.keep hk6); clear hk6 hr6)
              | (go_at_call 106; (with_reducible refine (HB.out _ HR6.out).mono ?_); rintro e w' ⟨b, x, rfl, hl1, hl2, hl3, hl4⟩))
            exact ⟨rfl, Left.after HK6.out ⟨b, x, rfl, hl1, hl2, hl3, hl4⟩⟩
          · obtain ⟨v2, rfl⟩ := hd_true h41b
            rw [h41b] at HId
            simp only [if_true, List.tail_cons] at HId
            rw [if_pos (by rfl), rdp_some (by rfl)]
            clear h94 h40 h41 hx HAL h41b
            go_enter Tryz.func118, Tryz.ntmps118
            go_wp2_with (first
              | (go_at_call 117; (with_reducible refine (HIa.out _ HR1.out).mono ?_); rintro e w2 ⟨rfl, hk2, hr2⟩; have HR2 := Lib.hid hr2; have HK2 := Lib.hid (HK1.out.trans hk2); have HZ2 := Lib.hid (HZ1.out.kp hk2 hne); have HE2 := Lib.hid (HE1.out.keep hk2); clear hk2 hr2)
              | (go_at_call 117; (with_reducible refine (HIb.out _ HR2.out).mono ?_); rintro e w3 ⟨rfl, hk3, hr3⟩; have HR3 := Lib.hid hr3; have HK3 := Lib.hid (HK2.out.trans hk3); have HZ3 := Lib.hid (HZ2.out.kp hk3 hne); have HE3 := Lib.hid (HE2.out.keep hk3); clear hk3 hr3)
              | (go_at_call 117; (with_reducible refine (HIc.out _ HR3.out).mono ?_); rintro e w4 ⟨rfl, hk4, hr4⟩; have HR4 := Lib.hid hr4; have HK4 := Lib.hid (HK3.out.trans hk4); have HZ4 := Lib.hid (HZ3.out.kp hk4 hne); have HE4 := Lib.hid (HE3.out.keep hk4); clear hk4 hr4)
              | (go_at_call 88; (with_reducible refine (HAL2.out _ HZ4.out.lt HR4.out HE4.out).mono ?_); rintro e w5 ⟨⟨k, l, A, c, mn, mx, kids⟩, rfl, hp, hok, hk5, hr5⟩; have HP := Lib.hid hp; have HOK := Lib.hid hok; have hws := hk5.size; have hzz := HZ4.out.lt; have hb5 : w5.heap.size ∉ [R] := (by simp; have := hr5.lt; omega); have HB5 := Lib.hid (Bx.new w5 (.int .i64 k) (.string l) (.slice A kids.len c) (.int .i64 mn) (.int .i64 mx) 24); have HOK5 := Lib.hid ((hok.al (cells5 k l A kids.len c mn mx))); have HK5 := Lib.hid ((HK4.out.trans hk5).alloc (cells5 k l A kids.len c mn mx)); have HR5 := Lib.hid (hr5.al (cells5 k l A kids.len c mn mx)); have HZ5 := Lib.hid ((HZ4.out.kp hk5 hne).al (cells5 k l A kids.len c mn mx)); have HE5 := Lib.hid ((HE4.out.keep hk5).below ((Below.refl _ _).alloc (Nat.le_refl _) (cells5 k l A kids.len c mn mx))); clear hp hok hk5 hr5)
              | (go_at_call 117; (with_reducible refine (HId.out _ HR5.out).mono ?_); rintro e w6 ⟨rfl, hk6, hr6⟩; have HR6 := Lib.hid hr6; have HK6 := Lib.hid (HK5.out.trans hk6); have HZ6 := Lib.hid (HZ5.out.kp hk6 hne); have HE6 := Lib.hid (HE5.out.keep hk6); have z0 := HZ6.out.c0; have y0 := HZ6.out.f0; have z1 := HZ6.out.c1; have y1 := HZ6.out.f1; have z2 := HZ6.out.c2; have y2 := HZ6.out.f2; have z3 := HZ6.out.c3; have y3 := HZ6.out.f3; have z4 := HZ6.out.c4; have y4 := HZ6.out.f4; have HB6 := Lib.hid (HB5.out.kp hk6 hb5); have HOK6 := Lib.hid (hk6.nd2 (Y := w.heap.size :: X) (by simp [HX.out]) HOK5.out); have x0 := HB6.out.c0; have x1 := HB6.out.c1; have x2 := HB6.out.c2; have x3 := HB6.out.c3; have x4 := HB6.out.c4; clear hk6 hr6))
            exact bodyPost_ret (v := .agg #[.int .i64 k, .string l, .slice A kids.len c, .int .i64 mn, .int .i64 mx]) (by simp [results, Tryz.results118, go_sem, z0, z1, z2, z3, z4]) rfl ⟨⟨k, l, A, c, mn, mx, kids⟩, rfl, HP.out, (HOK6.out.w5 (b := w.heap.size) (by simp)).less (by intro y hy; simp [hy]), HK6.out.w5 (Or.inr (Nat.le_refl _)), HR6.out.w5 (by omega)⟩
      · obtain ⟨v, rfl⟩ := hd_true h41
        rw [h41] at HIc
        simp only [if_true, List.tail_cons] at HIc
        rw [if_pos (by rfl), rdp_some (by rfl)]
        clear h94 h40 h41
        go_enter Tryz.func118, Tryz.ntmps118
        go_wp2_with (first
          | (go_at_call 117; (with_reducible refine (HIa.out _ HR1.out).mono ?_); rintro e w2 ⟨rfl, hk2, hr2⟩; have HR2 := Lib.hid hr2; have HK2 := Lib.hid (HK1.out.trans hk2); have HZ2 := Lib.hid (HZ1.out.kp hk2 hne); have HE2 := Lib.hid (HE1.out.keep hk2); clear hk2 hr2)
          | (go_at_call 117; (with_reducible refine (HIb.out _ HR2.out).mono ?_); rintro e w3 ⟨rfl, hk3, hr3⟩; have HR3 := Lib.hid hr3; have HK3 := Lib.hid (HK2.out.trans hk3); have HZ3 := Lib.hid (HZ2.out.kp hk3 hne); have HE3 := Lib.hid (HE2.out.keep hk3); clear hk3 hr3)
          | (go_at_call 117; (with_reducible refine (HIc.out _ HR3.out).mono ?_); rintro e w4 ⟨rfl, hk4, hr4⟩; have HR4 := Lib.hid hr4; have HK4 := Lib.hid (HK3.out.trans hk4); have HZ4 := Lib.hid (HZ3.out.kp hk4 hne); have HE4 := Lib.hid (HE3.out.keep hk4); have z0 := HZ4.out.c0; have y0 := HZ4.out.f0; have z1 := HZ4.out.c1; have y1 := HZ4.out.f1; have z2 := HZ4.out.c2; have y2 := HZ4.out.f2; have z3 := HZ4.out.c3; have y3 := HZ4.out.f3; have z4 := HZ4.out.c4; have y4 := HZ4.out.f4; clear hk4 hr4))
        exact bodyPost_ret (v := .agg #[.int .i64 1, .string ⟨#[]⟩, .slice none 0 0, .int .i64 0, .int .i64 0]) (by simp [results, Tryz.results118, go_sem, z0, z1, z2, z3, z4]) rfl ⟨⟨1, ⟨#[]⟩, none, 0, 0, 0, .nil⟩, rfl, rfl, ⟨Nat.le_refl _, by simp, trivial⟩, HK4.out.w5 (Or.inr (Nat.le_refl _)), HR4.out.w5 (by omega)⟩
  · obtain ⟨u, rfl⟩ := hd_true h94
    rw [h94] at HIa
    simp only [if_true, List.tail_cons] at HIa
    have hf := ht.next.1
    rw [atomR_esc]
    rcases hn : nameR u with _ | ⟨l, v⟩
    · have HN := Lib.hid (fun (w1 : World) (h1 : RS w1 R s (pos s u) d) => name_no w1 hn h1 hf hm)
      rw [rdp_none (by rfl)]
      clear h94 hn
      go_enter Tryz.func118, Tryz.ntmps118
      go_wp2_with (first
        | (go_at_call 117; (with_reducible refine (HIa.out _ HR1.out).mono ?_); rintro e w2 ⟨rfl, hk2, hr2⟩; have HR2 := Lib.hid hr2; have HK2 := Lib.hid (HK1.out.trans hk2); have HZ2 := Lib.hid (HZ1.out.kp hk2 hne); have HE2 := Lib.hid (HE1.out.keep hk2); clear hk2 hr2)
        | (go_at_call 125; (with_reducible refine (HN.out _ HR2.out).mono ?_); rintro e w' ⟨b, x, rfl, hl1, hl2, hl3, hl4⟩))
      exact ⟨rfl, Left.after HK2.out ⟨b, x, rfl, hl1, hl2, hl3, hl4⟩⟩
    · have HN := Lib.hid (fun (w1 : World) (h1 : RS w1 R s (pos s u) d) => name_yes w1 hn h1 hf hm)
      rw [rdp_some (by rfl)]
      clear h94 hn
      go_enter Tryz.func118, Tryz.ntmps118
      go_wp2_with (first
        | (go_at_call 117; (with_reducible refine (HIa.out _ HR1.out).mono ?_); rintro e w2 ⟨rfl, hk2, hr2⟩; have HR2 := Lib.hid hr2; have HK2 := Lib.hid (HK1.out.trans hk2); have HZ2 := Lib.hid (HZ1.out.kp hk2 hne); have HE2 := Lib.hid (HE1.out.keep hk2); clear hk2 hr2)
        | (go_at_call 125; (with_reducible refine (HN.out _ HR2.out).mono ?_); rintro e w3 ⟨rfl, hk3, hr3⟩; have HR3 := Lib.hid hr3; have HK3 := Lib.hid (HK2.out.trans hk3); have HZ3 := Lib.hid (HZ2.out.kp hk3 hne); clear hk3 hr3; have z0 := HZ3.out.c0; have y0 := HZ3.out.f0; have z1 := HZ3.out.c1; have y1 := HZ3.out.f1; have z2 := HZ3.out.c2; have y2 := HZ3.out.f2; have z3 := HZ3.out.c3; have y3 := HZ3.out.f3; have z4 := HZ3.out.c4; have y4 := HZ3.out.f4))
      exact bodyPost_ret (v := .agg #[.int .i64 3, strV l, .slice none 0 0, .int .i64 0, .int .i64 0]) (by simp [results, Tryz.results118, go_sem, z0, z1, z2, z3, z4]) rfl ⟨⟨3, ⟨l.toArray⟩, none, 0, 0, 0, .nil⟩, rfl, rfl, ⟨Nat.le_refl _, by simp, trivial⟩, HK3.out.w5 (Or.inr (Nat.le_refl _)), HR3.out.w5 (by omega)⟩
end Go.Proofs.YtpaehicfndkliaaGreatDoor.Pa
