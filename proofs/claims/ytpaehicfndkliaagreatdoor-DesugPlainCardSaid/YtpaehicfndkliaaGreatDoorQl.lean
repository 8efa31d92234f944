/- The walk of the reader's 'row', with each of its two function values. Condition: the reader lies in memory; what the function value does is known. -/
import Derived.Test.YtpaehicfndkliaaGreatDoorQk
import Derived.Test.YtpaehicfndkliaaGreatDoorPo
import Derived.Maps.AppendAt
namespace Go.Proofs.YtpaehicfndkliaaGreatDoor.Pa
open Go.RowKit Go.Lib Na Go.PN

theorem infoPath : (Tryz.prog.info? 24).map (fun i => (i.zero, i.size, i.bytes)) = some (some (.agg #[.int .i64 0, .string ⟨#[]⟩, .slice none 0 0, .int .i64 0, .int .i64 0]), 5, 64) := by kernel_rfl
theorem iPath : ∃ i, Tryz.prog.info? 24 = some i ∧ i.zero = some (.agg #[.int .i64 0, .string ⟨#[]⟩, .slice none 0 0, .int .i64 0, .int .i64 0]) ∧ i.size = 5 ∧ i.bytes = 64 := by
  have h := infoPath
  cases hi : Tryz.prog.info? 24 with
  | none => rw [hi] at h; cases h
  | some i =>
    rw [hi] at h
    simp only [Option.map_some, Option.some.injEq, Prod.mk.injEq] at h
    exact ⟨i, rfl, h.1, h.2.1, h.2.2⟩
theorem lit5 (w : World) (v0 v1 v2 v3 v4 : Value) (T : TypeId) : ∀ j u, [v0, v1, v2, v3, v4][j]? = some u → (w.alloc (.cells #[v0, v1, v2, v3, v4] T)).cell? ((⟨w.heap.size, 0, none⟩ : Addr).add j) = some u := by
  intro j u hj
  have e : (⟨w.heap.size, 0, none⟩ : Addr).add j = ⟨w.heap.size, 0 + j, none⟩ := by unfold Addr.add; split <;> simp_all
  rw [e]
  have hb := Bx.new w v0 v1 v2 v3 v4 T
  match j, hj with
  | 0, hj => injection hj with hj; subst hj; exact hb.c0
  | 1, hj => injection hj with hj; subst hj; exact hb.c1
  | 2, hj => injection hj with hj; subst hj; exact hb.c2
  | 3, hj => injection hj with hj; subst hj; exact hb.c3
  | 4, hj => injection hj with hj; subst hj; exact hb.c4
  | _ + 5, hj => cases hj
theorem cells1 (k : Int) (l : ByteArray) (A : Option Addr) (n c : Nat) (mn mx : Int) : ∀ u ∈ [Value.int .i64 k, .string l, .slice A n c, .int .i64 mn, .int .i64 mx], u.oneCell' = true := by
  intro u hu
  simp only [List.mem_cons, List.not_mem_nil, or_false] at hu
  rcases hu with rfl | rfl | rfl | rfl | rfl <;> rfl
def rowE (k : Int) (r : Option (Fo × List UInt8)) : Option (Fo × List UInt8) := r.map fun x => (if x.1.len = 1 then x.1 else one1 k [] x.1 0 0, x.2)
theorem rowR_eq {k : Int} {sep : UInt8} {one : Rd} {t u : List UInt8} {p : Fo} (h : one t = some (p, u)) : rowR k sep one t = rowE k (rowL one sep u.length p u) := by
  unfold rowR rowE
  rw [h]
  simp only
  cases rowL one sep u.length p u <;> rfl
theorem rowL_next {one : Rd} {sep : UInt8} {m : Nat} {f : Fo} {u : List UInt8} : rowL one sep (m + 1) f (sep :: u) = match one u with | some (p, v) => rowL one sep m (f.app p) v | none => none := by
  rw [rowL, if_pos rfl]
  cases one u <;> rfl
set_option maxRecDepth 100000 in
set_option maxHeartbeats 16000000 in
theorem row_seq (R : Nat) (s : ByteArray) (d : Int) (one : Rd) (hm : s.size ≤ 1000000) (X : List Nat) (t : List UInt8) (w : World) (hX : R ∈ X) (hXs : ∀ x ∈ X, x < w.heap.size) (ht : Sf s t) (h : RS w R s (pos s t) d) (hE : Er w R)
    (HONE0 : ∀ (X : List Nat) (t : List UInt8) (w1 : World), R ∈ X → (∀ x ∈ X, x < w1.heap.size) → Sf s t → RS w1 R s (pos s t) d → Er w1 R → Kp [R] w w1 → Calls Tryz.prog 109 #[.pointer (some ⟨R, 0, none⟩)] w1 (RdP R X s d (one t) w1))
    (hsuf : ∀ t p u, one t = some (p, u) → ∃ q, t = q ++ u) :
    Calls Tryz.prog 107 #[.pointer (some ⟨R, 0, none⟩), .int .i64 4, .int .u8 47, .func (.func 109) #[.pointer (some ⟨R, 0, none⟩)] #[]] w (RdP R X s d (rowR 4 47 one t) w) := by
  obtain ⟨iP, hi, hz0, hz1, hz2⟩ := iPath
  have HX := Lib.hid hX
  have HXS := Lib.hid hXs
  clear hX hXs
  have hRlt := h.lt
  have hneZ : w.heap.size ∉ [R] := by simp; omega
  have HR1 := Lib.hid (h.al zero5)
  have HK1 := Lib.hid ((Kp.refl [R] w).alloc zero5)
  have HE1 := Lib.hid (hE.keep HK1.out)
  have HER := Lib.hid (fun (w' : World) (hk : Kp [R] w w') => hE.keep hk)
  have HZ1 := Lib.hid (Bx.new w (.int .i64 0) (.string ⟨#[]⟩) (.slice none 0 0) (.int .i64 0) (.int .i64 0) 24)
  have HZL := Lib.hid HZ1.out.lt
  have HONE := Lib.hid HONE0
  have HA := Lib.hid (fun (w1 : World) (h0 : w.heap.size < w1.heap.size) (h1 : RS w1 R s (pos s t) d) (h2 : Er w1 R) (h3 : Kp [R] w w1) => HONE0 (w.heap.size :: X) t w1 (List.mem_cons_of_mem _ HX.out) (fun x hx => by rcases List.mem_cons.1 hx with rfl | hx; exact h0; have := HXS.out x hx; omega) ht h1 h2 h3)
  have HM := Lib.hid hm
  have HSUF := Lib.hid hsuf
  clear h hE HONE0 hsuf
  rcases hx : one t with _ | ⟨p0, u0⟩
  · have e : rowR 4 47 one t = none := by unfold rowR; rw [hx]
    rw [rdp_none e]
    rw [hx] at HA
    have HA2 : Hid (∀ w1 : World, w.heap.size < w1.heap.size → RS w1 R s (pos s t) d → Er w1 R → Kp [R] w w1 → Calls Tryz.prog 109 #[.pointer (some ⟨R, 0, none⟩)] w1 (Left R w1)) := HA.out
    clear hx HA e
    go_enter Tryz.func107, Tryz.ntmps107
    go_wp2_with (first
      | (go_at_call 109; (with_reducible refine (HA2.out _ HZL.out HR1.out HE1.out HK1.out).mono ?_); rintro e w' ⟨b, x, rfl, hl1, hl2, hl3, hl4⟩))
    exact ⟨rfl, Left.after HK1.out ⟨b, x, rfl, hl1, hl2, hl3, hl4⟩⟩
  · obtain ⟨q0, hq0⟩ := HSUF.out t p0 u0 hx
    have hf0 := Lib.hid (ht.suf hq0)
    obtain ⟨RES, hRES⟩ : ∃ RES, rowL one 47 u0.length p0 u0 = RES := ⟨_, rfl⟩
    have HRW := Lib.hid (show rowR 4 47 one t = rowE 4 RES by rw [← hRES]; exact rowR_eq hx)
    have HRES := Lib.hid hRES
    rw [hx] at HA
    have HA2 : Hid (∀ w1 : World, w.heap.size < w1.heap.size → RS w1 R s (pos s t) d → Er w1 R → Kp [R] w w1 → Calls Tryz.prog 109 #[.pointer (some ⟨R, 0, none⟩)] w1 fun e w' => ∃ a : Nd, e = .returned a.v ∧ a.fo .nil = p0 ∧ a.ok w' (w.heap.size :: X) ∧ Kp [R] w1 w' ∧ RS w' R s (pos s u0) d) := HA.out
    have hul : u0.length ≤ s.size := hf0.out.le
    have HQ0 := Lib.hid (Nat.le_refl u0.length)
    clear hx HA hRES hq0
    obtain ⟨SP, hSP⟩ : ∃ SP, rowR 4 47 one t = SP := ⟨_, rfl⟩
    rw [hSP] at HRW ⊢
    clear hSP
    go_enter Tryz.func107, Tryz.ntmps107
    go_wp2_with (first
      | (go_at_call 109; (with_reducible refine (HA2.out _ HZL.out HR1.out HE1.out HK1.out).mono ?_); rintro e w2 ⟨⟨k, l, A, c1, mn, mx, kids⟩, rfl, hp, hok, hk2, hr2⟩; have HP := Lib.hid hp; have hzz : w.heap.size < w2.heap.size := Nat.lt_of_lt_of_le HZL.out hk2.size; have HS2 := Lib.hid (RowS.one w2 (w.heap.size :: X) (w.heap.size + 1) k l A c1 mn mx kids hok hzz); have HK2 := Lib.hid ((HK1.out.trans hk2).alloc (cells5 k l A kids.len c1 mn mx)); have HR2 := Lib.hid (hr2.al (cells5 k l A kids.len c1 mn mx)); have HZ2 := Lib.hid ((HZ1.out.kp hk2 hneZ).al (cells5 k l A kids.len c1 mn mx)); have HE2 := Lib.hid (HER.out _ HK2.out); clear hp hok hk2 hr2))
    go_loopw [9] (fun lv wr => ∃ (g n c : Nat) (f : Fo) (tc : List UInt8) (fuel : Nat), lv = .slice (some ⟨g, 0, none⟩) n c ∧ n + tc.length ≤ s.size + 1 ∧ 1 ≤ n ∧ Hid (tc.length ≤ fuel) ∧ Hid (Sf s tc) ∧ Hid (RS wr R s (pos s tc) d) ∧ Hid (Kp [R] w wr) ∧ Hid (Er wr R) ∧ Hid (Bx wr w.heap.size (.int .i64 0) (.string ⟨#[]⟩) (.slice none 0 0) (.int .i64 0) (.int .i64 0)) ∧ Hid (RowS wr (w.heap.size + 1) (w.heap.size :: X) g n c f) ∧ Hid (rowL one 47 fuel f tc = RES)) (fun _ wr => s.size - rdAt wr R)
    case atStart => exact ⟨w2.heap.size, 1, 1, _, u0, u0.length, rfl, by omega, Nat.le_refl _, HQ0, hf0, HR2, HK2, HE2, HZ2, HS2, by rw [show Fo.cons k l kids mn mx .nil = p0 from HP.out]; exact HRES⟩
    case round =>
      obtain ⟨g, n, c, f, tc, fuel, rfl, hn, hn1, HFU, HF, HR5, HK5, HE5, HZ5, HS5, HRE⟩ := hrel
      clear HR2 HK2 HE2 HZ2 HS2 hf0 HRES HP HR1 HK1 HE1 HZ1 HQ0
      have HI := Lib.hid (fun (w1 : World) (h1 : RS w1 R s (pos s tc) d) => is_rd R s d 47 47 rfl tc w1 h1 HF.out HM.out)
      cases hs : hd 47 tc
      · rw [hs] at HI
        simp only [Bool.false_eq_true, if_false] at HI
        have hre := Lib.hid (show RES = some (f, tc) by
          rw [← HRE.out, rowL_stop _ _ _ _ _ (fun c hc e => hd_false hs (by rw [hc, e]))])
        clear hs
        have hg := HS5.out.g1
        have HXB := Lib.hid (show ∀ x ∈ w.heap.size :: X, x < w.heap.size + 1 from fun x hx => by
          rcases List.mem_cons.1 hx with rfl | hx
          · omega
          · have := HXS.out x hx; omega)
        have hfl := HS5.out.len
        by_cases hn2 : n = 1
        · subst hn2
          obtain ⟨k, l, d0, mn, mx, rfl⟩ := one_len hfl
          have hres := Lib.hid (show SP = some (.cons k l d0 mn mx .nil, tc) by rw [HRW.out, hre.out]; rfl)
          have hat := HS5.out.at HXB.out
          obtain ⟨b', o', K, c', eb, _, hcel, h1, h2, h3, _⟩ := hat
          injection eb with eb
          injection eb with eb1 eb2
          subst eb1 eb2
          have HCL := Lib.hid hcel
          have HAK := Lib.hid (show Nd.ok wr (w.heap.size :: X) ⟨k, l, K, c', mn, mx, d0⟩ from ⟨h1, h2, h3⟩)
          clear hcel h1 h2 h3 hfl
          go_wp2_with (first
            | (go_at_call 117; (with_reducible refine (HI.out _ HR5.out).mono ?_); rintro e w6 ⟨rfl, hk6, hr6⟩; have hk6x := hk6; have HR6 := Lib.hid hr6; have HK6 := Lib.hid (HK5.out.trans hk6); have HE6 := Lib.hid (HE5.out.keep hk6); have HZ6 := Lib.hid (HZ5.out.kp hk6 hneZ); have HS6 := Lib.hid (HS5.out.kp hk6 (by simp [HX.out]; omega)); clear hk6 hr6; have HCL6 := Lib.hid (HCL.out.keep (hk6x.block _ hg.2.1 (by simp; omega))); have HAK6 := Lib.hid (hk6x.nd2 (by simp [HX.out]) HAK.out); have x0 := HCL6.out.1; have x1 := HCL6.out.2.1; have x2 := HCL6.out.2.2.1; have x3 := HCL6.out.2.2.2.1; have x4 := HCL6.out.2.2.2.2; have z0 := HZ6.out.c0; have y0 := HZ6.out.f0; have z1 := HZ6.out.c1; have y1 := HZ6.out.f1; have z2 := HZ6.out.c2; have y2 := HZ6.out.f2; have z3 := HZ6.out.c3; have y3 := HZ6.out.f3; have z4 := HZ6.out.c4; have y4 := HZ6.out.f4))
          exact bodyPost_ret (v := .agg #[.int .i64 k, .string l, .slice K d0.len c', .int .i64 mn, .int .i64 mx]) (by simp [results, Tryz.results107, go_sem, z0, z1, z2, z3, z4]) rfl (by rw [rdp_some hres.out]; exact ⟨⟨k, l, K, c', mn, mx, d0⟩, rfl, rfl, (HAK6.out.w5 (b := w.heap.size) (by simp)).less (by intro y hy; simp [hy]), HK6.out.w5 (Or.inr (Nat.le_refl _)), HR6.out.w5 (by omega)⟩)
        · have hres := Lib.hid (show SP = some (one1 4 [] f 0 0, tc) by rw [HRW.out, hre.out]; unfold rowE; simp only [Option.map_some]; rw [if_neg (by omega)])
          have hflc := Lib.hid hfl
          subst hfl
          have tn : ((f.len : Int) == 1) = false := by rw [beq_eq_false_iff_ne]; omega
          clear hn2
          go_wp2_with (first
            | (go_at_call 117; (with_reducible refine (HI.out _ HR5.out).mono ?_); rintro e w6 ⟨rfl, hk6, hr6⟩; have HR6 := Lib.hid hr6; have HK6 := Lib.hid (HK5.out.trans hk6); have HE6 := Lib.hid (HE5.out.keep hk6); have HZ6 := Lib.hid (HZ5.out.kp hk6 hneZ); have HS6 := Lib.hid (HS5.out.kp hk6 (by simp [HX.out]; omega)); clear hk6 hr6; have z0 := HZ6.out.c0; have y0 := HZ6.out.f0; have z1 := HZ6.out.c1; have y1 := HZ6.out.f1; have z2 := HZ6.out.c2; have y2 := HZ6.out.f2; have z3 := HZ6.out.c3; have y3 := HZ6.out.f3; have z4 := HZ6.out.c4; have y4 := HZ6.out.f4))
          exact bodyPost_ret (v := .agg #[.int .i64 4, .string ⟨#[]⟩, .slice (some ⟨g, 0, none⟩) f.len c, .int .i64 0, .int .i64 0]) (by simp [results, Tryz.results107, go_sem, z0, z1, z2, z3, z4]) rfl (by rw [rdp_some hres.out]; exact ⟨⟨4, ⟨#[]⟩, some ⟨g, 0, none⟩, c, 0, 0, f⟩, rfl, rfl, (Nd.ok.w5 (a := ⟨4, ⟨#[]⟩, some ⟨g, 0, none⟩, c, 0, 0, f⟩) (b := w.heap.size) ⟨hg.2.2.1, hg.2.2.2, HS6.out.at HXB.out⟩ (by simp)).less (by intro y hy; simp [hy]), HK6.out.w5 (Or.inr (Nat.le_refl _)), HR6.out.w5 (by omega)⟩)
      · obtain ⟨uc, rfl⟩ := hd_true hs
        rw [hs] at HI
        simp only [if_true, List.tail_cons] at HI
        have hfu := Lib.hid HF.out.next.1
        obtain ⟨m, rfl⟩ : ∃ m, fuel = m + 1 := ⟨fuel - 1, by have := HFU.out; rw [List.length_cons] at this; omega⟩
        have hg := HS5.out.g1
        have HRL := Lib.hid (HRE.out.symm.trans rowL_next)
        have HA := Lib.hid (fun (w1 : World) (h0 : w.heap.size < w1.heap.size ∧ g < w1.heap.size) (h1 : RS w1 R s (pos s uc) d) (h2 : Er w1 R) (h3 : Kp [R] w w1) => HONE.out (g :: w.heap.size :: X) uc w1 (by simp [HX.out]) (fun x hx => by
          rcases List.mem_cons.1 hx with rfl | hx
          · exact h0.2
          rcases List.mem_cons.1 hx with rfl | hx
          · exact h0.1
          · have := HXS.out x hx; omega) hfu.out h1 h2 h3)
        rcases hx : one uc with _ | ⟨p, v⟩
        · have hre := Lib.hid (show SP = none by rw [HRW.out, HRL.out, hx]; rfl)
          rw [hx] at HA
          have HA3 : Hid (∀ w1 : World, w.heap.size < w1.heap.size ∧ g < w1.heap.size → RS w1 R s (pos s uc) d → Er w1 R → Kp [R] w w1 → Calls Tryz.prog 109 #[.pointer (some ⟨R, 0, none⟩)] w1 (Left R w1)) := HA.out
          clear hs hx HA
          go_wp2_with (first
            | (go_at_call 117; (with_reducible refine (HI.out _ HR5.out).mono ?_); rintro e w6 ⟨rfl, hk6, hr6⟩; have HR6 := Lib.hid hr6; have HK6 := Lib.hid (HK5.out.trans hk6); have HE6 := Lib.hid (HE5.out.keep hk6); have HZ6 := Lib.hid (HZ5.out.kp hk6 hneZ); have HS6 := Lib.hid (HS5.out.kp hk6 (by simp [HX.out]; omega)); clear hk6 hr6)
            | (go_at_call 109; (with_reducible refine (HA3.out _ ⟨HZ6.out.lt, HS6.out.g1.2.1⟩ HR6.out HE6.out HK6.out).mono ?_); rintro e w' ⟨b, x, rfl, hl1, hl2, hl3, hl4⟩))
          exact ⟨rfl, by rw [rdp_none hre.out]; exact Left.after HK6.out ⟨b, x, rfl, hl1, hl2, hl3, hl4⟩⟩
        · have hre := Lib.hid (show rowL one 47 m (f.app p) v = RES by rw [HRL.out, hx])
          obtain ⟨qs, hqs⟩ := HSUF.out uc p v hx
          have hfv := Lib.hid (hfu.out.suf hqs)
          have hvl := congrArg List.length hqs
          rw [List.length_append] at hvl
          rw [List.length_cons] at hn
          have hfu2 := Lib.hid (show v.length ≤ m by have := HFU.out; rw [List.length_cons] at this; omega)
          rw [hx] at HA
          have HA3 : Hid (∀ w1 : World, w.heap.size < w1.heap.size ∧ g < w1.heap.size → RS w1 R s (pos s uc) d → Er w1 R → Kp [R] w w1 → Calls Tryz.prog 109 #[.pointer (some ⟨R, 0, none⟩)] w1 fun e w' => ∃ a : Nd, e = .returned a.v ∧ a.fo .nil = p ∧ a.ok w' (g :: w.heap.size :: X) ∧ Kp [R] w1 w' ∧ RS w' R s (pos s v) d) := HA.out
          have hvn : n + 1 + v.length ≤ s.size + 1 := by omega
          have hvm : v.length ≤ uc.length := by omega
          have hucs := hfu.out.le
          clear hs hx HA hqs
          go_wp2_with (first
            | (go_at_call 117; (with_reducible refine (HI.out _ HR5.out).mono ?_); rintro e w6 ⟨rfl, hk6, hr6⟩; have HR6 := Lib.hid hr6; have HK6 := Lib.hid (HK5.out.trans hk6); have HE6 := Lib.hid (HE5.out.keep hk6); have HZ6 := Lib.hid (HZ5.out.kp hk6 hneZ); have HS6 := Lib.hid (HS5.out.kp hk6 (by simp [HX.out]; omega)); clear hk6 hr6)
            | (go_at_call 109; (with_reducible refine (HA3.out _ ⟨HZ6.out.lt, HS6.out.g1.2.1⟩ HR6.out HE6.out HK6.out).mono ?_); rintro e w7 ⟨⟨k, l, A, c1, mn, mx, kids⟩, rfl, hp, hok, hk7, hr7⟩; have HP := Lib.hid hp; have HOK := Lib.hid hok; have HK7 := Lib.hid (HK6.out.trans hk7); have HR7 := Lib.hid (hr7.al (cells5 k l A kids.len c1 mn mx)); have HS7 := Lib.hid (HS6.out.kp hk7 (by simp [HX.out]; omega)); have HZ7 := Lib.hid ((HZ6.out.kp hk7 hneZ).al (cells5 k l A kids.len c1 mn mx)); have HW7 := Lib.hid (show w.heap.size < w7.heap.size from Nat.lt_of_lt_of_le HZ6.out.lt hk7.size); clear hp hok hk7 hr7; obtain ⟨cs, hown, hcs⟩ := HS7.out.own; have HCS := Lib.hid hcs; have HOWN := Lib.hid (hown.alloc (cells5 k l A kids.len c1 mn mx)); clear hown hcs)
            | (refine wpList_append_own_at _ rfl (.tmp 16) (.tmp 19) 22 rfl (w.heap.size + 1) 24 iP _ 5 64 Tryz.underlying22 hi hz0 hz1 hz2 rfl (by decide) (.slice (some ⟨g, 0, none⟩) n c) n cs rfl HOWN.out ⟨w7.heap.size, 0, none⟩ 1 1 [.int .i64 k, .string l, .slice A kids.len c1, .int .i64 mn, .int .i64 mx] rfl rfl (lit5 w7 _ _ _ _ _ _) (cells1 _ _ _ _ _ _ _) (by unfold maxLen; omega) (by omega) (by have := HW7.out; simp; omega) ?_; intro v' w8 hown8 hgrow _ hat8; have HG8 := Lib.hid hgrow; obtain ⟨g', c', rfl, hrs⟩ := HS7.out.push k l A c1 mn mx kids HOK.out HCS.out hown8 hgrow hat8; have HS8 := Lib.hid hrs; clear hrs hown8 hgrow hat8))
          have hgn := HS7.out.g1
          have hgr := HG8.out
          have hk8 : Kp [R] w w8 := ⟨hgr.os.trans (HK7.out.alloc _).os, hgr.tape.trans (HK7.out.alloc _).tape, hgr.output.trans (HK7.out.alloc _).output, Nat.le_trans (HK7.out.alloc _).size hgr.size, fun b hb hx => (hgr.block b (Nat.lt_of_lt_of_le hb (HK7.out.alloc _).size) (fun e => by have e2 : b = g := Option.some.inj e; omega)).trans ((HK7.out.alloc _).block b hb hx)⟩
          have hr8 : RS w8 R s (pos s v) d := HR7.out.keep (hgr.block R HR7.out.lt (fun e => by have e2 : R = g := Option.some.inj e; omega))
          have hz8 := HZ7.out.keep (hgr.block w.heap.size HZ7.out.lt (fun e => by have e2 : w.heap.size = g := Option.some.inj e; omega))
          exact ⟨⟨g', n + 1, c', _, v, m, rfl, hvn, by omega, hfu2, hfv, hr8, hk8, HER.out _ hk8, hz8, HS8, by rw [show Fo.cons k l kids mn mx .nil = p from HP.out]; exact hre⟩, by
            have e1 := HR5.out.rdAt
            have e2 := hr8.rdAt
            rw [e1, e2]
            simp only [List.length_cons]
            omega⟩
set_option maxRecDepth 100000 in
set_option maxHeartbeats 16000000 in
theorem row_alt (R : Nat) (s : ByteArray) (d : Int) (one : Rd) (B : Nat) (hm : s.size ≤ 1000000) (X : List Nat) (t : List UInt8) (w : World) (hX : R ∈ X) (hXs : ∀ x ∈ X, x < w.heap.size) (ht : Sf s t) (h : RS w R s (pos s t) d) (hE : Er w R)
    (HONE0 : ∀ (X : List Nat) (t : List UInt8) (w1 : World), R ∈ X → (∀ x ∈ X, x < w1.heap.size) → Sf s t → RS w1 R s (pos s t) d → Er w1 R → Kp [R] w w1 → Calls Tryz.prog 108 #[.pointer (some ⟨B, 0, none⟩)] w1 (RdP R X s d (one t) w1))
    (hsuf : ∀ t p u, one t = some (p, u) → ∃ q, t = q ++ u) :
    Calls Tryz.prog 107 #[.pointer (some ⟨R, 0, none⟩), .int .i64 5, .int .u8 124, .func (.func 108) #[] #[.pointer (some ⟨B, 0, none⟩)]] w (RdP R X s d (rowR 5 124 one t) w) := by
  obtain ⟨iP, hi, hz0, hz1, hz2⟩ := iPath
  have HX := Lib.hid hX
  have HXS := Lib.hid hXs
  clear hX hXs
  have hRlt := h.lt
  have hneZ : w.heap.size ∉ [R] := by simp; omega
  have HR1 := Lib.hid (h.al zero5)
  have HK1 := Lib.hid ((Kp.refl [R] w).alloc zero5)
  have HE1 := Lib.hid (hE.keep HK1.out)
  have HER := Lib.hid (fun (w' : World) (hk : Kp [R] w w') => hE.keep hk)
  have HZ1 := Lib.hid (Bx.new w (.int .i64 0) (.string ⟨#[]⟩) (.slice none 0 0) (.int .i64 0) (.int .i64 0) 24)
  have HZL := Lib.hid HZ1.out.lt
  have HONE := Lib.hid HONE0
  have HA := Lib.hid (fun (w1 : World) (h0 : w.heap.size < w1.heap.size) (h1 : RS w1 R s (pos s t) d) (h2 : Er w1 R) (h3 : Kp [R] w w1) => HONE0 (w.heap.size :: X) t w1 (List.mem_cons_of_mem _ HX.out) (fun x hx => by rcases List.mem_cons.1 hx with rfl | hx; exact h0; have := HXS.out x hx; omega) ht h1 h2 h3)
  have HM := Lib.hid hm
  have HSUF := Lib.hid hsuf
  clear h hE HONE0 hsuf
  rcases hx : one t with _ | ⟨p0, u0⟩
  · have e : rowR 5 124 one t = none := by unfold rowR; rw [hx]
    rw [rdp_none e]
    rw [hx] at HA
    have HA2 : Hid (∀ w1 : World, w.heap.size < w1.heap.size → RS w1 R s (pos s t) d → Er w1 R → Kp [R] w w1 → Calls Tryz.prog 108 #[.pointer (some ⟨B, 0, none⟩)] w1 (Left R w1)) := HA.out
    clear hx HA e
    go_enter Tryz.func107, Tryz.ntmps107
    go_wp2_with (first
      | (go_at_call 108; (with_reducible refine (HA2.out _ HZL.out HR1.out HE1.out HK1.out).mono ?_); rintro e w' ⟨b, x, rfl, hl1, hl2, hl3, hl4⟩))
    exact ⟨rfl, Left.after HK1.out ⟨b, x, rfl, hl1, hl2, hl3, hl4⟩⟩
  · obtain ⟨q0, hq0⟩ := HSUF.out t p0 u0 hx
    have hf0 := Lib.hid (ht.suf hq0)
    obtain ⟨RES, hRES⟩ : ∃ RES, rowL one 124 u0.length p0 u0 = RES := ⟨_, rfl⟩
    have HRW := Lib.hid (show rowR 5 124 one t = rowE 5 RES by rw [← hRES]; exact rowR_eq hx)
    have HRES := Lib.hid hRES
    rw [hx] at HA
    have HA2 : Hid (∀ w1 : World, w.heap.size < w1.heap.size → RS w1 R s (pos s t) d → Er w1 R → Kp [R] w w1 → Calls Tryz.prog 108 #[.pointer (some ⟨B, 0, none⟩)] w1 fun e w' => ∃ a : Nd, e = .returned a.v ∧ a.fo .nil = p0 ∧ a.ok w' (w.heap.size :: X) ∧ Kp [R] w1 w' ∧ RS w' R s (pos s u0) d) := HA.out
    have hul : u0.length ≤ s.size := hf0.out.le
    have HQ0 := Lib.hid (Nat.le_refl u0.length)
    clear hx HA hRES hq0
    obtain ⟨SP, hSP⟩ : ∃ SP, rowR 5 124 one t = SP := ⟨_, rfl⟩
    rw [hSP] at HRW ⊢
    clear hSP
    go_enter Tryz.func107, Tryz.ntmps107
    go_wp2_with (first
      | (go_at_call 108; (with_reducible refine (HA2.out _ HZL.out HR1.out HE1.out HK1.out).mono ?_); rintro e w2 ⟨⟨k, l, A, c1, mn, mx, kids⟩, rfl, hp, hok, hk2, hr2⟩; have HP := Lib.hid hp; have hzz : w.heap.size < w2.heap.size := Nat.lt_of_lt_of_le HZL.out hk2.size; have HS2 := Lib.hid (RowS.one w2 (w.heap.size :: X) (w.heap.size + 1) k l A c1 mn mx kids hok hzz); have HK2 := Lib.hid ((HK1.out.trans hk2).alloc (cells5 k l A kids.len c1 mn mx)); have HR2 := Lib.hid (hr2.al (cells5 k l A kids.len c1 mn mx)); have HZ2 := Lib.hid ((HZ1.out.kp hk2 hneZ).al (cells5 k l A kids.len c1 mn mx)); have HE2 := Lib.hid (HER.out _ HK2.out); clear hp hok hk2 hr2))
    go_loopw [9] (fun lv wr => ∃ (g n c : Nat) (f : Fo) (tc : List UInt8) (fuel : Nat), lv = .slice (some ⟨g, 0, none⟩) n c ∧ n + tc.length ≤ s.size + 1 ∧ 1 ≤ n ∧ Hid (tc.length ≤ fuel) ∧ Hid (Sf s tc) ∧ Hid (RS wr R s (pos s tc) d) ∧ Hid (Kp [R] w wr) ∧ Hid (Er wr R) ∧ Hid (Bx wr w.heap.size (.int .i64 0) (.string ⟨#[]⟩) (.slice none 0 0) (.int .i64 0) (.int .i64 0)) ∧ Hid (RowS wr (w.heap.size + 1) (w.heap.size :: X) g n c f) ∧ Hid (rowL one 124 fuel f tc = RES)) (fun _ wr => s.size - rdAt wr R)
    case atStart => exact ⟨w2.heap.size, 1, 1, _, u0, u0.length, rfl, by omega, Nat.le_refl _, HQ0, hf0, HR2, HK2, HE2, HZ2, HS2, by rw [show Fo.cons k l kids mn mx .nil = p0 from HP.out]; exact HRES⟩
    case round =>
      obtain ⟨g, n, c, f, tc, fuel, rfl, hn, hn1, HFU, HF, HR5, HK5, HE5, HZ5, HS5, HRE⟩ := hrel
      clear HR2 HK2 HE2 HZ2 HS2 hf0 HRES HP HR1 HK1 HE1 HZ1 HQ0
      have HI := Lib.hid (fun (w1 : World) (h1 : RS w1 R s (pos s tc) d) => is_rd R s d 124 124 rfl tc w1 h1 HF.out HM.out)
      cases hs : hd 124 tc
      · rw [hs] at HI
        simp only [Bool.false_eq_true, if_false] at HI
        have hre := Lib.hid (show RES = some (f, tc) by
          rw [← HRE.out, rowL_stop _ _ _ _ _ (fun c hc e => hd_false hs (by rw [hc, e]))])
        clear hs
        have hg := HS5.out.g1
        have HXB := Lib.hid (show ∀ x ∈ w.heap.size :: X, x < w.heap.size + 1 from fun x hx => by
          rcases List.mem_cons.1 hx with rfl | hx
          · omega
          · have := HXS.out x hx; omega)
        have hfl := HS5.out.len
        by_cases hn2 : n = 1
        · subst hn2
          obtain ⟨k, l, d0, mn, mx, rfl⟩ := one_len hfl
          have hres := Lib.hid (show SP = some (.cons k l d0 mn mx .nil, tc) by rw [HRW.out, hre.out]; rfl)
          have hat := HS5.out.at HXB.out
          obtain ⟨b', o', K, c', eb, _, hcel, h1, h2, h3, _⟩ := hat
          injection eb with eb
          injection eb with eb1 eb2
          subst eb1 eb2
          have HCL := Lib.hid hcel
          have HAK := Lib.hid (show Nd.ok wr (w.heap.size :: X) ⟨k, l, K, c', mn, mx, d0⟩ from ⟨h1, h2, h3⟩)
          clear hcel h1 h2 h3 hfl
          go_wp2_with (first
            | (go_at_call 117; (with_reducible refine (HI.out _ HR5.out).mono ?_); rintro e w6 ⟨rfl, hk6, hr6⟩; have hk6x := hk6; have HR6 := Lib.hid hr6; have HK6 := Lib.hid (HK5.out.trans hk6); have HE6 := Lib.hid (HE5.out.keep hk6); have HZ6 := Lib.hid (HZ5.out.kp hk6 hneZ); have HS6 := Lib.hid (HS5.out.kp hk6 (by simp [HX.out]; omega)); clear hk6 hr6; have HCL6 := Lib.hid (HCL.out.keep (hk6x.block _ hg.2.1 (by simp; omega))); have HAK6 := Lib.hid (hk6x.nd2 (by simp [HX.out]) HAK.out); have x0 := HCL6.out.1; have x1 := HCL6.out.2.1; have x2 := HCL6.out.2.2.1; have x3 := HCL6.out.2.2.2.1; have x4 := HCL6.out.2.2.2.2; have z0 := HZ6.out.c0; have y0 := HZ6.out.f0; have z1 := HZ6.out.c1; have y1 := HZ6.out.f1; have z2 := HZ6.out.c2; have y2 := HZ6.out.f2; have z3 := HZ6.out.c3; have y3 := HZ6.out.f3; have z4 := HZ6.out.c4; have y4 := HZ6.out.f4))
          exact bodyPost_ret (v := .agg #[.int .i64 k, .string l, .slice K d0.len c', .int .i64 mn, .int .i64 mx]) (by simp [results, Tryz.results107, go_sem, z0, z1, z2, z3, z4]) rfl (by rw [rdp_some hres.out]; exact ⟨⟨k, l, K, c', mn, mx, d0⟩, rfl, rfl, (HAK6.out.w5 (b := w.heap.size) (by simp)).less (by intro y hy; simp [hy]), HK6.out.w5 (Or.inr (Nat.le_refl _)), HR6.out.w5 (by omega)⟩)
        · have hres := Lib.hid (show SP = some (one1 5 [] f 0 0, tc) by rw [HRW.out, hre.out]; unfold rowE; simp only [Option.map_some]; rw [if_neg (by omega)])
          have hflc := Lib.hid hfl
          subst hfl
          have tn : ((f.len : Int) == 1) = false := by rw [beq_eq_false_iff_ne]; omega
          clear hn2
          go_wp2_with (first
            | (go_at_call 117; (with_reducible refine (HI.out _ HR5.out).mono ?_); rintro e w6 ⟨rfl, hk6, hr6⟩; have HR6 := Lib.hid hr6; have HK6 := Lib.hid (HK5.out.trans hk6); have HE6 := Lib.hid (HE5.out.keep hk6); have HZ6 := Lib.hid (HZ5.out.kp hk6 hneZ); have HS6 := Lib.hid (HS5.out.kp hk6 (by simp [HX.out]; omega)); clear hk6 hr6; have z0 := HZ6.out.c0; have y0 := HZ6.out.f0; have z1 := HZ6.out.c1; have y1 := HZ6.out.f1; have z2 := HZ6.out.c2; have y2 := HZ6.out.f2; have z3 := HZ6.out.c3; have y3 := HZ6.out.f3; have z4 := HZ6.out.c4; have y4 := HZ6.out.f4))
          exact bodyPost_ret (v := .agg #[.int .i64 5, .string ⟨#[]⟩, .slice (some ⟨g, 0, none⟩) f.len c, .int .i64 0, .int .i64 0]) (by simp [results, Tryz.results107, go_sem, z0, z1, z2, z3, z4]) rfl (by rw [rdp_some hres.out]; exact ⟨⟨5, ⟨#[]⟩, some ⟨g, 0, none⟩, c, 0, 0, f⟩, rfl, rfl, (Nd.ok.w5 (a := ⟨5, ⟨#[]⟩, some ⟨g, 0, none⟩, c, 0, 0, f⟩) (b := w.heap.size) ⟨hg.2.2.1, hg.2.2.2, HS6.out.at HXB.out⟩ (by simp)).less (by intro y hy; simp [hy]), HK6.out.w5 (Or.inr (Nat.le_refl _)), HR6.out.w5 (by omega)⟩)
      · obtain ⟨uc, rfl⟩ := hd_true hs
        rw [hs] at HI
        simp only [if_true, List.tail_cons] at HI
        have hfu := Lib.hid HF.out.next.1
        obtain ⟨m, rfl⟩ : ∃ m, fuel = m + 1 := ⟨fuel - 1, by have := HFU.out; rw [List.length_cons] at this; omega⟩
        have hg := HS5.out.g1
        have HRL := Lib.hid (HRE.out.symm.trans rowL_next)
        have HA := Lib.hid (fun (w1 : World) (h0 : w.heap.size < w1.heap.size ∧ g < w1.heap.size) (h1 : RS w1 R s (pos s uc) d) (h2 : Er w1 R) (h3 : Kp [R] w w1) => HONE.out (g :: w.heap.size :: X) uc w1 (by simp [HX.out]) (fun x hx => by
          rcases List.mem_cons.1 hx with rfl | hx
          · exact h0.2
          rcases List.mem_cons.1 hx with rfl | hx
          · exact h0.1
          · have := HXS.out x hx; omega) hfu.out h1 h2 h3)
        rcases hx : one uc with _ | ⟨p, v⟩
        · have hre := Lib.hid (show SP = none by rw [HRW.out, HRL.out, hx]; rfl)
          rw [hx] at HA
          have HA3 : Hid (∀ w1 : World, w.heap.size < w1.heap.size ∧ g < w1.heap.size → RS w1 R s (pos s uc) d → Er w1 R → Kp [R] w w1 → Calls Tryz.prog 108 #[.pointer (some ⟨B, 0, none⟩)] w1 (Left R w1)) := HA.out
          clear hs hx HA
          go_wp2_with (first
            | (go_at_call 117; (with_reducible refine (HI.out _ HR5.out).mono ?_); rintro e w6 ⟨rfl, hk6, hr6⟩; have HR6 := Lib.hid hr6; have HK6 := Lib.hid (HK5.out.trans hk6); have HE6 := Lib.hid (HE5.out.keep hk6); have HZ6 := Lib.hid (HZ5.out.kp hk6 hneZ); have HS6 := Lib.hid (HS5.out.kp hk6 (by simp [HX.out]; omega)); clear hk6 hr6)
            | (go_at_call 108; (with_reducible refine (HA3.out _ ⟨HZ6.out.lt, HS6.out.g1.2.1⟩ HR6.out HE6.out HK6.out).mono ?_); rintro e w' ⟨b, x, rfl, hl1, hl2, hl3, hl4⟩))
          exact ⟨rfl, by rw [rdp_none hre.out]; exact Left.after HK6.out ⟨b, x, rfl, hl1, hl2, hl3, hl4⟩⟩
        · have hre := Lib.hid (show rowL one 124 m (f.app p) v = RES by rw [HRL.out, hx])
          obtain ⟨qs, hqs⟩ := HSUF.out uc p v hx
          have hfv := Lib.hid (hfu.out.suf hqs)
          have hvl := congrArg List.length hqs
          rw [List.length_append] at hvl
          rw [List.length_cons] at hn
          have hfu2 := Lib.hid (show v.length ≤ m by have := HFU.out; rw [List.length_cons] at this; omega)
          rw [hx] at HA
          have HA3 : Hid (∀ w1 : World, w.heap.size < w1.heap.size ∧ g < w1.heap.size → RS w1 R s (pos s uc) d → Er w1 R → Kp [R] w w1 → Calls Tryz.prog 108 #[.pointer (some ⟨B, 0, none⟩)] w1 fun e w' => ∃ a : Nd, e = .returned a.v ∧ a.fo .nil = p ∧ a.ok w' (g :: w.heap.size :: X) ∧ Kp [R] w1 w' ∧ RS w' R s (pos s v) d) := HA.out
          have hvn : n + 1 + v.length ≤ s.size + 1 := by omega
          have hvm : v.length ≤ uc.length := by omega
          have hucs := hfu.out.le
          clear hs hx HA hqs
          go_wp2_with (first
            | (go_at_call 117; (with_reducible refine (HI.out _ HR5.out).mono ?_); rintro e w6 ⟨rfl, hk6, hr6⟩; have HR6 := Lib.hid hr6; have HK6 := Lib.hid (HK5.out.trans hk6); have HE6 := Lib.hid (HE5.out.keep hk6); have HZ6 := Lib.hid (HZ5.out.kp hk6 hneZ); have HS6 := Lib.hid (HS5.out.kp hk6 (by simp [HX.out]; omega)); clear hk6 hr6)
            | (go_at_call 108; (with_reducible refine (HA3.out _ ⟨HZ6.out.lt, HS6.out.g1.2.1⟩ HR6.out HE6.out HK6.out).mono ?_); rintro e w7 ⟨⟨k, l, A, c1, mn, mx, kids⟩, rfl, hp, hok, hk7, hr7⟩; have HP := Lib.hid hp; have HOK := Lib.hid hok; have HK7 := Lib.hid (HK6.out.trans hk7); have HR7 := Lib.hid (hr7.al (cells5 k l A kids.len c1 mn mx)); have HS7 := Lib.hid (HS6.out.kp hk7 (by simp [HX.out]; omega)); have HZ7 := Lib.hid ((HZ6.out.kp hk7 hneZ).al (cells5 k l A kids.len c1 mn mx)); have HW7 := Lib.hid (show w.heap.size < w7.heap.size from Nat.lt_of_lt_of_le HZ6.out.lt hk7.size); clear hp hok hk7 hr7; obtain ⟨cs, hown, hcs⟩ := HS7.out.own; have HCS := Lib.hid hcs; have HOWN := Lib.hid (hown.alloc (cells5 k l A kids.len c1 mn mx)); clear hown hcs)
            | (refine wpList_append_own_at _ rfl (.tmp 16) (.tmp 19) 22 rfl (w.heap.size + 1) 24 iP _ 5 64 Tryz.underlying22 hi hz0 hz1 hz2 rfl (by decide) (.slice (some ⟨g, 0, none⟩) n c) n cs rfl HOWN.out ⟨w7.heap.size, 0, none⟩ 1 1 [.int .i64 k, .string l, .slice A kids.len c1, .int .i64 mn, .int .i64 mx] rfl rfl (lit5 w7 _ _ _ _ _ _) (cells1 _ _ _ _ _ _ _) (by unfold maxLen; omega) (by omega) (by have := HW7.out; simp; omega) ?_; intro v' w8 hown8 hgrow _ hat8; have HG8 := Lib.hid hgrow; obtain ⟨g', c', rfl, hrs⟩ := HS7.out.push k l A c1 mn mx kids HOK.out HCS.out hown8 hgrow hat8; have HS8 := Lib.hid hrs; clear hrs hown8 hgrow hat8))
          have hgn := HS7.out.g1
          have hgr := HG8.out
          have hk8 : Kp [R] w w8 := ⟨hgr.os.trans (HK7.out.alloc _).os, hgr.tape.trans (HK7.out.alloc _).tape, hgr.output.trans (HK7.out.alloc _).output, Nat.le_trans (HK7.out.alloc _).size hgr.size, fun b hb hx => (hgr.block b (Nat.lt_of_lt_of_le hb (HK7.out.alloc _).size) (fun e => by have e2 : b = g := Option.some.inj e; omega)).trans ((HK7.out.alloc _).block b hb hx)⟩
          have hr8 : RS w8 R s (pos s v) d := HR7.out.keep (hgr.block R HR7.out.lt (fun e => by have e2 : R = g := Option.some.inj e; omega))
          have hz8 := HZ7.out.keep (hgr.block w.heap.size HZ7.out.lt (fun e => by have e2 : w.heap.size = g := Option.some.inj e; omega))
          exact ⟨⟨g', n + 1, c', _, v, m, rfl, hvn, by omega, hfu2, hfv, hr8, hk8, HER.out _ hk8, hz8, HS8, by rw [show Fo.cons k l kids mn mx .nil = p from HP.out]; exact hre⟩, by
            have e1 := HR5.out.rdAt
            have e2 := hr8.rdAt
            rw [e1, e2]
            simp only [List.length_cons]
            omega⟩
end Go.Proofs.YtpaehicfndkliaaGreatDoor.Pa
