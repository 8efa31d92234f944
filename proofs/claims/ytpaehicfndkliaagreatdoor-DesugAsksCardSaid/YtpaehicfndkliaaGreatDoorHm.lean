
/- The walks of the document's 'turn', 'Turn'. Condition: the path can be read; it is asked, for 'turn'. -/
import Derived.Test.YtpaehicfndkliaaGreatDoorHd
import Derived.Test.YtpaehicfndkliaaGreatDoorDo
namespace Go.Proofs.YtpaehicfndkliaaGreatDoor.De
open Go.RowKit Go.Lib Na Go.PN Pa

/-- The row as it is read: the last ones first, where the kids stand one behind the other. -/
def ordF (k : Int) (d : Fo) : Fo := if k = 4 then revF d else d
theorem ordF_len (k : Int) (d : Fo) : (ordF k d).len = d.len := by
  unfold ordF
  split
  · exact revF_len d
  · rfl
theorem ord_tu (k : Int) (d : Fo) : tuL (ordF k d) = dt k (tuL d) := by
  unfold ordF dt
  split
  · exact tuL_rev d
  · rfl
/-- Where the q-th one of the row as it is read stands. -/
theorem ord_at {k : Int} {d dn r : Fo} {k1 : Int} {l1 : ByteArray} {d1 : Fo} {mn1 mx1 : Int} (h : ordF k d = dn.app (.cons k1 l1 d1 mn1 mx1 r)) : ∃ (dn2 r2 : Fo), d = dn2.app (.cons k1 l1 d1 mn1 mx1 r2) ∧ dn2.len = if k = 4 then d.len - 1 - dn.len else dn.len := by
  unfold ordF at h
  by_cases h4 : k = 4
  · rw [if_pos h4] at h
    refine ⟨revF r, revF dn, ?_, ?_⟩
    · rw [← revF_rev d, h, revF_app, revF, Fo.app_assoc]
      rfl
    · rw [if_pos h4]
      have := congrArg Fo.len h
      rw [revF_len, Fo.app_len, Fo.len] at this
      rw [revF_len]; omega
  · rw [if_neg h4] at h
    exact ⟨dn, r, h, by rw [if_neg h4]⟩
abbrev TuR (n : Nat) : Prop := ∀ (a : Nd) (X : List Nat) (w : World), a.kids.sz < n → Wd 1000 (a.fo .nil) → a.ok w X → (∀ x ∈ X, x < w.heap.size) → Calls Tryz.prog 53 #[a.v] w (MadeP w X (tu1 a.k a.l (tuL a.kids) a.mn a.mx))
set_option maxRecDepth 100000 in
set_option maxHeartbeats 16000000 in
theorem rturn_2 (n : Nat) (ih : TuR n) (l : ByteArray) (A : Option Addr) (c : Nat) (mn mx : Int) (kids : Fo) (X : List Nat) (w : World) (hn : kids.sz < n + 1) (hwd : Wd 1000 (.cons 2 l kids mn mx .nil)) (hc : kids.len ≤ c) (hc2 : c ≤ 9223372036854775807) (hat : At w X kids A) (hX : ∀ x ∈ X, x < w.heap.size) :
    Calls Tryz.prog 53 #[.agg #[.int .i64 2, .string l, .slice A kids.len c, .int .i64 mn, .int .i64 mx]] w (MadeP w X (tu1 2 l (tuL kids) mn mx)) := by
  obtain ⟨iP, hi, hz0, hz1, hz2⟩ := iPath
  have hkl : kids.len ≤ 1000 := hwd.1
  have HN := Lib.hid hn
  have HV := Lib.hid hwd.2.1
  have IH := Lib.hid ih
  have HAT := Lib.hid hat
  have HTU := Lib.hid (show Fo.cons 3 l (tuL (ordF 2 kids)) 0 0 .nil = tu1 2 l (tuL kids) mn mx by rw [ord_tu]; rfl)
  have HX := Lib.hid (show ∀ x ∈ (w.heap.size + 2) :: (w.heap.size + 1) :: X, x < w.heap.size + 3 from fun x hx => by
    simp only [List.mem_cons] at hx
    rcases hx with rfl | rfl | hx
    · omega
    · omega
    · have := hX x hx; omega)
  have HFR := Lib.hid (show ∀ (lv : Value) (q : Nat) (f : Fo) (wr : World), RowN wr (w.heap.size + 3) ((w.heap.size + 2) :: (w.heap.size + 1) :: X) lv q f → ∀ y ∈ vb lv ++ (w.heap.size + 2) :: (w.heap.size + 1) :: X, y ∈ X ∨ w.heap.size ≤ y from fun lv q f wr h y hy => by
    rw [List.mem_append, List.mem_cons, List.mem_cons] at hy
    rcases hy with hy | rfl | rfl | hy
    · exact Or.inr (by have := h.lt y hy; omega)
    · exact Or.inr (by omega)
    · exact Or.inr (by omega)
    · exact Or.inl hy)
  have HW0 := Lib.hid (show ∀ o1 o2 o3 : Obj, Below w.heap.size w (((w.alloc o1).alloc o2).alloc o3) ∧ (((w.alloc o1).alloc o2).alloc o3).heap.size = w.heap.size + 3 from fun o1 o2 o3 => ⟨(((Below.refl _ w).alloc (by simp) _).alloc (by simp) _).alloc (by simp; omega) _, by simp⟩)
  have HK0 := Lib.hid (((Bx.new w (.int .i64 2) (.string l) (.slice A kids.len c) (.int .i64 mn) (.int .i64 mx) 24).al obj50).al (obj5 3 l none 0 0 0 0))
  have HR0 := Lib.hid (show Bx (((w.alloc (obj5 2 l A kids.len c mn mx)).alloc obj50).alloc (obj5 3 l none 0 0 0 0)) (w.heap.size + 1) (.int .i64 0) (.string ⟨#[]⟩) (.slice none 0 0) (.int .i64 0) (.int .i64 0) from by
    have := (Bx.new (w.alloc (obj5 2 l A kids.len c mn mx)) (.int .i64 0) (.string ⟨#[]⟩) (.slice none 0 0) (.int .i64 0) (.int .i64 0) 24).al (obj5 3 l none 0 0 0 0)
    simpa using this)
  have HT0 := Lib.hid (show Bx (((w.alloc (obj5 2 l A kids.len c mn mx)).alloc obj50).alloc (obj5 3 l none 0 0 0 0)) (w.heap.size + 2) (.int .i64 3) (.string l) (.slice none 0 0) (.int .i64 0) (.int .i64 0) from by
    have := Bx.new ((w.alloc (obj5 2 l A kids.len c mn mx)).alloc obj50) (.int .i64 3) (.string l) (.slice none 0 0) (.int .i64 0) (.int .i64 0) 24
    simpa using this)
  have HS0 := Lib.hid (RowN.none (((w.alloc (obj5 2 l A kids.len c mn mx)).alloc obj50).alloc (obj5 3 l none 0 0 0 0)) (w.heap.size + 3) ((w.heap.size + 2) :: (w.heap.size + 1) :: X))
  clear hat hn ih hX hwd
  go_enter Tryz.func53, Tryz.ntmps53
  go_wp2_with fail
  go_loopw [4] (fun iv wr => ∃ (q : Nat) (dn r : Fo) (lv : Value), Hid (ordF 2 kids = dn.app r) ∧ Hid (dn.len = q) ∧ iv = .int .i64 q ∧ Hid (RowN wr (w.heap.size + 3) ((w.heap.size + 2) :: (w.heap.size + 1) :: X) lv q (tuL dn)) ∧ Hid (Bx wr w.heap.size (.int .i64 2) (.string l) (.slice A kids.len c) (.int .i64 mn) (.int .i64 mx)) ∧ Hid (Bx wr (w.heap.size + 1) (.int .i64 0) (.string ⟨#[]⟩) (.slice none 0 0) (.int .i64 0) (.int .i64 0)) ∧ Hid (Bx wr (w.heap.size + 2) (.int .i64 3) (.string l) lv (.int .i64 0) (.int .i64 0)) ∧ Hid (Below w.heap.size w wr) ∧ Hid (w.heap.size + 3 ≤ wr.heap.size)) (fun iv _ => kids.len - (RowKit.intOf iv).toNat)
  case atStart => exact ⟨0, .nil, ordF 2 kids, _, Lib.hid rfl, Lib.hid rfl, rfl, HS0, HK0, HR0, HT0, Lib.hid (HW0.out _ _ _).1, Lib.hid (Nat.le_of_eq (HW0.out _ _ _).2.symm)⟩
  case round =>
    obtain ⟨q, dn, r, lv, hk, hq, rfl, HS, HK, HR, HT, HB, HZ⟩ := hrel
    clear HS0 HK0 HR0 HT0 HW0
    have hlen := Lib.hid (show kids.len = q + r.len by rw [← ordF_len 2 kids, hk.out, Fo.app_len, hq.out])
    obtain ⟨⟨x0, x1, x2, x3, x4⟩, y0, y1, y2, y3, y4⟩ := bx_all (HK.out)
    cases r with
    | cons k1 l1 d1 mn1 mx1 r1 =>
      have hlt : (q : Int) < kids.len := by have := hlen.out; simp only [Fo.len] at this; omega
      have hlt2 : decide (q < kids.len) = true := decide_eq_true (by omega)
      have hq0 : (0 : Int) ≤ q := by omega
      obtain ⟨dn2, r2, hk2, hpos⟩ := ord_at hk.out
      obtain ⟨p, hp⟩ : ∃ p, dn2.len = p := ⟨_, rfl⟩
      obtain rfl : p = q := by rw [← hp, hpos, if_neg (by decide), hq.out]
      obtain ⟨b0, o0, rfl⟩ := at_shape HAT.out (by rw [hk2, Fo.app_len]; simp only [Fo.len]; omega)
      have h3 := (HAT.out.grow (HFR.out _ _ _ _ HS.out)).below HB.out
      rw [hk2] at h3
      obtain ⟨K1, c1, hcel, hc3, hc4, hat1⟩ := h3.nth hp
      obtain ⟨e0, e1, e2, e3, e4⟩ := hcel
      have hsz : d1.sz < n := by
        have h5 := congrArg Fo.sz hk2
        rw [Fo.app_sz] at h5
        have h6 := HN.out
        simp only [Fo.sz] at h5
        omega
      have hwk : Wd 1000 (.cons k1 l1 d1 mn1 mx1 .nil) := by
        have h5 := HV.out
        rw [hk2, Wd.app] at h5
        exact ⟨h5.2.1, h5.2.2.1, trivial⟩
      have hq60 : p ≤ 1000 := by omega
      have HSB := Lib.hid (show Below wr.heap.size wr wr.drew from (Below.refl _ _).drew)
      have HCALL := Lib.hid (IH.out ⟨k1, l1, K1, c1, mn1, mx1, d1⟩ (vb lv ++ (w.heap.size + 2) :: (w.heap.size + 1) :: X) wr.drew hsz hwk (Nd.ok.below ⟨hc3, hc4, hat1⟩ HSB.out) (fun x hx => lt_of HS.out HX.out HZ.out x hx))
      unfold Nd.v at HCALL
      simp only at HCALL
      have HKK := Lib.hid (show tuL (dn.app (.cons k1 l1 d1 mn1 mx1 .nil)) = (tuL dn).app (tu1 k1 l1 (tuL d1) mn1 mx1) by rw [tuL_app]; congr 1)
      have hkk := Lib.hid (show ordF 2 kids = (dn.app (.cons k1 l1 d1 mn1 mx1 .nil)).app r1 by rw [hk.out, Fo.app_assoc]; rfl)
      have hqq := Lib.hid (show (dn.app (.cons k1 l1 d1 mn1 mx1 .nil)).len = p + 1 by rw [Fo.app_len, hq.out]; rfl)
      obtain ⟨⟨p0, p1, p2, p3, p4⟩, o0', o1', o2', o3', o4'⟩ := bx_all (HT.out)
      have HT1 := Lib.hid (HT.out.below HSB.out)
      have hzz : w.heap.size + 3 ≤ wr.heap.size := HZ.out
      have hlt3 : w.heap.size + 2 < wr.heap.size := by omega
      clear h3 hat1 hsz hk2 hwk hp hpos
      go_wp2_with fail
      go_region_law (first
        | (go_simp; go_at_call 53; (with_reducible refine (HCALL.out).mono ?_); rintro e w2 ⟨⟨k2, l2, A2, c2, mn2, mx2, d2⟩, rfl, hfo2, hok2, hb2⟩; have HF2 := Lib.hid hfo2; have HO2 := Lib.hid hok2; have HB2 := Lib.hid hb2; clear hfo2 hok2 hb2; have HB2b := Lib.hid (HSB.out.trans (HB2.out.mono HSB.out.size)); have hlt32 : w.heap.size + 2 < w2.heap.size := Nat.lt_of_lt_of_le hlt3 HB2b.out.size; have HS2 := Lib.hid (HS.out.below HB2b.out); have HZ2 := Lib.hid (Nat.le_trans HZ.out HB2b.out.size); have HT2 := Lib.hid (HT.out.below HB2b.out); obtain ⟨⟨r0, r1', r2, r3, r4⟩, s0, s1, s2, s3, s4⟩ := bx_all HT2.out; obtain ⟨cs8, hown8, hcs8⟩ := HS2.out.own; have HCS8 := Lib.hid hcs8; have HOWN8 := Lib.hid (hown8.alloc (obj5 k2 l2 A2 d2.len c2 mn2 mx2)); clear hown8 hcs8)
        | (refine step_append_any _ rfl (.tmp 49) (.tmp 56) 22 rfl (w.heap.size + 3) 24 iP _ 5 64 Tryz.underlying22 hi hz0 hz1 hz2 rfl (by decide) lv p cs8 rfl HOWN8.out (w2.heap.size + 1) (some ⟨w2.heap.size, 0, none⟩) 1 1 [.int .i64 k2, .string l2, .slice A2 d2.len c2, .int .i64 mn2, .int .i64 mx2] rfl (reads5 w2 _ _ _ _ _ _) (csl_one _ _ _ _ _ _ _) (by unfold maxLen; omega) (by omega) (by have := HZ2.out; simp; omega) ?_; intro v8 w8 hown8 hgrow8 hat8; obtain ⟨HS8, HB8, HZ8⟩ := HS2.out.push_all k2 l2 A2 c2 mn2 mx2 d2 HO2.out HCS8.out HZ2.out hown8 hgrow8 hat8; clear hown8 hgrow8 hat8; obtain ⟨A8, c8, hv8, hvc1, hvc2, hvc3⟩ := HS8.out.at HX.out; subst hv8; clear hvc1 hvc2 hvc3; obtain ⟨⟨t0, t1, t2', t3', t4'⟩, j0, j1, j2, j3, j4⟩ := bx_all (HT2.out.at_below HB8.out (by omega))))
      all_goals
        go_wp2_with fail
        exact ⟨⟨p + 1, _, r1, .slice A8 (p + 1) c8, hkk, hqq, by go_num, Lib.hid (by rw [HKK.out, ← HF2.out]; exact HS8.out.set (p := ⟨w.heap.size + 2, 2, none⟩) (by simp) (fun hx => by have := HS8.out.lt _ hx; simp at this <;> omega) _), Lib.hid (((HK.out.below HB2b.out).at_below HB8.out (by omega)).far (p := ⟨w.heap.size + 2, 2, none⟩) (by simp) _), Lib.hid (((HR.out.below HB2b.out).at_below HB8.out (by omega)).far (p := ⟨w.heap.size + 2, 2, none⟩) (by simp) _), Lib.hid ((HT2.out.at_below HB8.out (by omega)).set2 _), Lib.hid ((bt (bt HB.out HB2b.out HB.out.size) HB8.out (by omega)).setCell (p := ⟨w.heap.size + 2, 2, none⟩) (by simp <;> omega) _), Lib.hid (by have := HZ8.out; have := HZ2.out; simp [World.setCell] <;> omega)⟩, by simp [RowKit.intOf] <;> omega⟩
    | nil =>
      have hlt : ¬ (q : Int) < kids.len := by have := hlen.out; simp only [Fo.len] at this; omega
      have hlt2 : decide (q < kids.len) = false := decide_eq_false (by have := hlen.out; simp only [Fo.len] at this; omega)
      have hdk : ordF 2 kids = dn := by have := hk.out; rw [Fo.app_nil] at this; exact this
      obtain ⟨A8, c8, rfl, hv1, hv2, hv3⟩ := HS.out.at HX.out
      have hql : (tuL dn).len = q := by rw [tuL_len]; exact hq.out
      have HOK := Lib.hid (show Nd.ok wr ((w.heap.size + 2) :: (w.heap.size + 1) :: X) ⟨3, l, A8, c8, 0, 0, tuL dn⟩ from ⟨by rw [hql]; exact hv1, hv2, hv3⟩)
      have HTE := Lib.hid (show Fo.cons 3 l (tuL dn) 0 0 .nil = tu1 2 l (tuL kids) mn mx by rw [← hdk]; exact HTU.out)
      have HLS := Lib.hid (show ∀ y, y ∈ (w.heap.size + 1) :: X → y ∈ (w.heap.size + 2) :: (w.heap.size + 1) :: X from fun y hy => List.mem_cons_of_mem _ hy)
      have HQL := Lib.hid hql
      clear hv3 hdk hk hq hlen hql
      obtain ⟨⟨z0, z1, z2, z3, z4⟩, t0, t1, t2', t3', t4'⟩ := bx_all (HR.out)
      obtain ⟨⟨p0, p1, p2, p3, p4⟩, o0, o1, o2, o3, o4⟩ := bx_all (HT.out)
      have hbz : w.heap.size + 3 ≤ wr.heap.size := HZ.out
      go_wp2_with fail
      exact bodyPost_ret (v := (⟨3, l, A8, c8, 0, 0, tuL dn⟩ : Nd).v) (by simp [results, Tryz.results53, go_sem, z0, z1, z2, z3, z4, HQL.out]) rfl (made_w5 (w := w) (a := ⟨3, l, A8, c8, 0, 0, tuL dn⟩) (b := w.heap.size + 1) HTE.out (HOK.out.less HLS.out) HB.out (by omega) (.int .i64 3) (.string l) (.slice A8 q c8) (.int .i64 0) (.int .i64 0))
set_option maxRecDepth 100000 in
set_option maxHeartbeats 16000000 in
theorem rturn_3 (n : Nat) (ih : TuR n) (l : ByteArray) (A : Option Addr) (c : Nat) (mn mx : Int) (kids : Fo) (X : List Nat) (w : World) (hn : kids.sz < n + 1) (hwd : Wd 1000 (.cons 3 l kids mn mx .nil)) (hc : kids.len ≤ c) (hc2 : c ≤ 9223372036854775807) (hat : At w X kids A) (hX : ∀ x ∈ X, x < w.heap.size) :
    Calls Tryz.prog 53 #[.agg #[.int .i64 3, .string l, .slice A kids.len c, .int .i64 mn, .int .i64 mx]] w (MadeP w X (tu1 3 l (tuL kids) mn mx)) := by
  obtain ⟨iP, hi, hz0, hz1, hz2⟩ := iPath
  have hkl : kids.len ≤ 1000 := hwd.1
  have HN := Lib.hid hn
  have HV := Lib.hid hwd.2.1
  have IH := Lib.hid ih
  have HAT := Lib.hid hat
  have HTU := Lib.hid (show Fo.cons 2 l (tuL (ordF 3 kids)) 0 0 .nil = tu1 3 l (tuL kids) mn mx by rw [ord_tu]; rfl)
  have HX := Lib.hid (show ∀ x ∈ (w.heap.size + 2) :: (w.heap.size + 1) :: X, x < w.heap.size + 3 from fun x hx => by
    simp only [List.mem_cons] at hx
    rcases hx with rfl | rfl | hx
    · omega
    · omega
    · have := hX x hx; omega)
  have HFR := Lib.hid (show ∀ (lv : Value) (q : Nat) (f : Fo) (wr : World), RowN wr (w.heap.size + 3) ((w.heap.size + 2) :: (w.heap.size + 1) :: X) lv q f → ∀ y ∈ vb lv ++ (w.heap.size + 2) :: (w.heap.size + 1) :: X, y ∈ X ∨ w.heap.size ≤ y from fun lv q f wr h y hy => by
    rw [List.mem_append, List.mem_cons, List.mem_cons] at hy
    rcases hy with hy | rfl | rfl | hy
    · exact Or.inr (by have := h.lt y hy; omega)
    · exact Or.inr (by omega)
    · exact Or.inr (by omega)
    · exact Or.inl hy)
  have HW0 := Lib.hid (show ∀ o1 o2 o3 : Obj, Below w.heap.size w (((w.alloc o1).alloc o2).alloc o3) ∧ (((w.alloc o1).alloc o2).alloc o3).heap.size = w.heap.size + 3 from fun o1 o2 o3 => ⟨(((Below.refl _ w).alloc (by simp) _).alloc (by simp) _).alloc (by simp; omega) _, by simp⟩)
  have HK0 := Lib.hid (((Bx.new w (.int .i64 3) (.string l) (.slice A kids.len c) (.int .i64 mn) (.int .i64 mx) 24).al obj50).al (obj5 2 l none 0 0 0 0))
  have HR0 := Lib.hid (show Bx (((w.alloc (obj5 3 l A kids.len c mn mx)).alloc obj50).alloc (obj5 2 l none 0 0 0 0)) (w.heap.size + 1) (.int .i64 0) (.string ⟨#[]⟩) (.slice none 0 0) (.int .i64 0) (.int .i64 0) from by
    have := (Bx.new (w.alloc (obj5 3 l A kids.len c mn mx)) (.int .i64 0) (.string ⟨#[]⟩) (.slice none 0 0) (.int .i64 0) (.int .i64 0) 24).al (obj5 2 l none 0 0 0 0)
    simpa using this)
  have HT0 := Lib.hid (show Bx (((w.alloc (obj5 3 l A kids.len c mn mx)).alloc obj50).alloc (obj5 2 l none 0 0 0 0)) (w.heap.size + 2) (.int .i64 2) (.string l) (.slice none 0 0) (.int .i64 0) (.int .i64 0) from by
    have := Bx.new ((w.alloc (obj5 3 l A kids.len c mn mx)).alloc obj50) (.int .i64 2) (.string l) (.slice none 0 0) (.int .i64 0) (.int .i64 0) 24
    simpa using this)
  have HS0 := Lib.hid (RowN.none (((w.alloc (obj5 3 l A kids.len c mn mx)).alloc obj50).alloc (obj5 2 l none 0 0 0 0)) (w.heap.size + 3) ((w.heap.size + 2) :: (w.heap.size + 1) :: X))
  clear hat hn ih hX hwd
  go_enter Tryz.func53, Tryz.ntmps53
  go_wp2_with fail
  go_loopw [4] (fun iv wr => ∃ (q : Nat) (dn r : Fo) (lv : Value), Hid (ordF 3 kids = dn.app r) ∧ Hid (dn.len = q) ∧ iv = .int .i64 q ∧ Hid (RowN wr (w.heap.size + 3) ((w.heap.size + 2) :: (w.heap.size + 1) :: X) lv q (tuL dn)) ∧ Hid (Bx wr w.heap.size (.int .i64 3) (.string l) (.slice A kids.len c) (.int .i64 mn) (.int .i64 mx)) ∧ Hid (Bx wr (w.heap.size + 1) (.int .i64 0) (.string ⟨#[]⟩) (.slice none 0 0) (.int .i64 0) (.int .i64 0)) ∧ Hid (Bx wr (w.heap.size + 2) (.int .i64 2) (.string l) lv (.int .i64 0) (.int .i64 0)) ∧ Hid (Below w.heap.size w wr) ∧ Hid (w.heap.size + 3 ≤ wr.heap.size)) (fun iv _ => kids.len - (RowKit.intOf iv).toNat)
  case atStart => exact ⟨0, .nil, ordF 3 kids, _, Lib.hid rfl, Lib.hid rfl, rfl, HS0, HK0, HR0, HT0, Lib.hid (HW0.out _ _ _).1, Lib.hid (Nat.le_of_eq (HW0.out _ _ _).2.symm)⟩
  case round =>
    obtain ⟨q, dn, r, lv, hk, hq, rfl, HS, HK, HR, HT, HB, HZ⟩ := hrel
    clear HS0 HK0 HR0 HT0 HW0
    have hlen := Lib.hid (show kids.len = q + r.len by rw [← ordF_len 3 kids, hk.out, Fo.app_len, hq.out])
    obtain ⟨⟨x0, x1, x2, x3, x4⟩, y0, y1, y2, y3, y4⟩ := bx_all (HK.out)
    cases r with
    | cons k1 l1 d1 mn1 mx1 r1 =>
      have hlt : (q : Int) < kids.len := by have := hlen.out; simp only [Fo.len] at this; omega
      have hlt2 : decide (q < kids.len) = true := decide_eq_true (by omega)
      have hq0 : (0 : Int) ≤ q := by omega
      obtain ⟨dn2, r2, hk2, hpos⟩ := ord_at hk.out
      obtain ⟨p, hp⟩ : ∃ p, dn2.len = p := ⟨_, rfl⟩
      obtain rfl : p = q := by rw [← hp, hpos, if_neg (by decide), hq.out]
      obtain ⟨b0, o0, rfl⟩ := at_shape HAT.out (by rw [hk2, Fo.app_len]; simp only [Fo.len]; omega)
      have h3 := (HAT.out.grow (HFR.out _ _ _ _ HS.out)).below HB.out
      rw [hk2] at h3
      obtain ⟨K1, c1, hcel, hc3, hc4, hat1⟩ := h3.nth hp
      obtain ⟨e0, e1, e2, e3, e4⟩ := hcel
      have hsz : d1.sz < n := by
        have h5 := congrArg Fo.sz hk2
        rw [Fo.app_sz] at h5
        have h6 := HN.out
        simp only [Fo.sz] at h5
        omega
      have hwk : Wd 1000 (.cons k1 l1 d1 mn1 mx1 .nil) := by
        have h5 := HV.out
        rw [hk2, Wd.app] at h5
        exact ⟨h5.2.1, h5.2.2.1, trivial⟩
      have hq60 : p ≤ 1000 := by omega
      have HSB := Lib.hid (show Below wr.heap.size wr wr.drew from (Below.refl _ _).drew)
      have HCALL := Lib.hid (IH.out ⟨k1, l1, K1, c1, mn1, mx1, d1⟩ (vb lv ++ (w.heap.size + 2) :: (w.heap.size + 1) :: X) wr.drew hsz hwk (Nd.ok.below ⟨hc3, hc4, hat1⟩ HSB.out) (fun x hx => lt_of HS.out HX.out HZ.out x hx))
      unfold Nd.v at HCALL
      simp only at HCALL
      have HKK := Lib.hid (show tuL (dn.app (.cons k1 l1 d1 mn1 mx1 .nil)) = (tuL dn).app (tu1 k1 l1 (tuL d1) mn1 mx1) by rw [tuL_app]; congr 1)
      have hkk := Lib.hid (show ordF 3 kids = (dn.app (.cons k1 l1 d1 mn1 mx1 .nil)).app r1 by rw [hk.out, Fo.app_assoc]; rfl)
      have hqq := Lib.hid (show (dn.app (.cons k1 l1 d1 mn1 mx1 .nil)).len = p + 1 by rw [Fo.app_len, hq.out]; rfl)
      obtain ⟨⟨p0, p1, p2, p3, p4⟩, o0', o1', o2', o3', o4'⟩ := bx_all (HT.out)
      have HT1 := Lib.hid (HT.out.below HSB.out)
      have hzz : w.heap.size + 3 ≤ wr.heap.size := HZ.out
      have hlt3 : w.heap.size + 2 < wr.heap.size := by omega
      clear h3 hat1 hsz hk2 hwk hp hpos
      go_wp2_with fail
      go_region_law (first
        | (go_simp; go_at_call 53; (with_reducible refine (HCALL.out).mono ?_); rintro e w2 ⟨⟨k2, l2, A2, c2, mn2, mx2, d2⟩, rfl, hfo2, hok2, hb2⟩; have HF2 := Lib.hid hfo2; have HO2 := Lib.hid hok2; have HB2 := Lib.hid hb2; clear hfo2 hok2 hb2; have HB2b := Lib.hid (HSB.out.trans (HB2.out.mono HSB.out.size)); have hlt32 : w.heap.size + 2 < w2.heap.size := Nat.lt_of_lt_of_le hlt3 HB2b.out.size; have HS2 := Lib.hid (HS.out.below HB2b.out); have HZ2 := Lib.hid (Nat.le_trans HZ.out HB2b.out.size); have HT2 := Lib.hid (HT.out.below HB2b.out); obtain ⟨⟨r0, r1', r2, r3, r4⟩, s0, s1, s2, s3, s4⟩ := bx_all HT2.out; obtain ⟨cs8, hown8, hcs8⟩ := HS2.out.own; have HCS8 := Lib.hid hcs8; have HOWN8 := Lib.hid (hown8.alloc (obj5 k2 l2 A2 d2.len c2 mn2 mx2)); clear hown8 hcs8)
        | (refine step_append_any _ rfl (.tmp 49) (.tmp 56) 22 rfl (w.heap.size + 3) 24 iP _ 5 64 Tryz.underlying22 hi hz0 hz1 hz2 rfl (by decide) lv p cs8 rfl HOWN8.out (w2.heap.size + 1) (some ⟨w2.heap.size, 0, none⟩) 1 1 [.int .i64 k2, .string l2, .slice A2 d2.len c2, .int .i64 mn2, .int .i64 mx2] rfl (reads5 w2 _ _ _ _ _ _) (csl_one _ _ _ _ _ _ _) (by unfold maxLen; omega) (by omega) (by have := HZ2.out; simp; omega) ?_; intro v8 w8 hown8 hgrow8 hat8; obtain ⟨HS8, HB8, HZ8⟩ := HS2.out.push_all k2 l2 A2 c2 mn2 mx2 d2 HO2.out HCS8.out HZ2.out hown8 hgrow8 hat8; clear hown8 hgrow8 hat8; obtain ⟨A8, c8, hv8, hvc1, hvc2, hvc3⟩ := HS8.out.at HX.out; subst hv8; clear hvc1 hvc2 hvc3; obtain ⟨⟨t0, t1, t2', t3', t4'⟩, j0, j1, j2, j3, j4⟩ := bx_all (HT2.out.at_below HB8.out (by omega))))
      all_goals
        go_wp2_with fail
        exact ⟨⟨p + 1, _, r1, .slice A8 (p + 1) c8, hkk, hqq, by go_num, Lib.hid (by rw [HKK.out, ← HF2.out]; exact HS8.out.set (p := ⟨w.heap.size + 2, 2, none⟩) (by simp) (fun hx => by have := HS8.out.lt _ hx; simp at this <;> omega) _), Lib.hid (((HK.out.below HB2b.out).at_below HB8.out (by omega)).far (p := ⟨w.heap.size + 2, 2, none⟩) (by simp) _), Lib.hid (((HR.out.below HB2b.out).at_below HB8.out (by omega)).far (p := ⟨w.heap.size + 2, 2, none⟩) (by simp) _), Lib.hid ((HT2.out.at_below HB8.out (by omega)).set2 _), Lib.hid ((bt (bt HB.out HB2b.out HB.out.size) HB8.out (by omega)).setCell (p := ⟨w.heap.size + 2, 2, none⟩) (by simp <;> omega) _), Lib.hid (by have := HZ8.out; have := HZ2.out; simp [World.setCell] <;> omega)⟩, by simp [RowKit.intOf] <;> omega⟩
    | nil =>
      have hlt : ¬ (q : Int) < kids.len := by have := hlen.out; simp only [Fo.len] at this; omega
      have hlt2 : decide (q < kids.len) = false := decide_eq_false (by have := hlen.out; simp only [Fo.len] at this; omega)
      have hdk : ordF 3 kids = dn := by have := hk.out; rw [Fo.app_nil] at this; exact this
      obtain ⟨A8, c8, rfl, hv1, hv2, hv3⟩ := HS.out.at HX.out
      have hql : (tuL dn).len = q := by rw [tuL_len]; exact hq.out
      have HOK := Lib.hid (show Nd.ok wr ((w.heap.size + 2) :: (w.heap.size + 1) :: X) ⟨2, l, A8, c8, 0, 0, tuL dn⟩ from ⟨by rw [hql]; exact hv1, hv2, hv3⟩)
      have HTE := Lib.hid (show Fo.cons 2 l (tuL dn) 0 0 .nil = tu1 3 l (tuL kids) mn mx by rw [← hdk]; exact HTU.out)
      have HLS := Lib.hid (show ∀ y, y ∈ (w.heap.size + 1) :: X → y ∈ (w.heap.size + 2) :: (w.heap.size + 1) :: X from fun y hy => List.mem_cons_of_mem _ hy)
      have HQL := Lib.hid hql
      clear hv3 hdk hk hq hlen hql
      obtain ⟨⟨z0, z1, z2, z3, z4⟩, t0, t1, t2', t3', t4'⟩ := bx_all (HR.out)
      obtain ⟨⟨p0, p1, p2, p3, p4⟩, o0, o1, o2, o3, o4⟩ := bx_all (HT.out)
      have hbz : w.heap.size + 3 ≤ wr.heap.size := HZ.out
      go_wp2_with fail
      exact bodyPost_ret (v := (⟨2, l, A8, c8, 0, 0, tuL dn⟩ : Nd).v) (by simp [results, Tryz.results53, go_sem, z0, z1, z2, z3, z4, HQL.out]) rfl (made_w5 (w := w) (a := ⟨2, l, A8, c8, 0, 0, tuL dn⟩) (b := w.heap.size + 1) HTE.out (HOK.out.less HLS.out) HB.out (by omega) (.int .i64 2) (.string l) (.slice A8 q c8) (.int .i64 0) (.int .i64 0))
set_option maxRecDepth 100000 in
set_option maxHeartbeats 16000000 in
theorem rturn_4 (n : Nat) (ih : TuR n) (l : ByteArray) (A : Option Addr) (c : Nat) (mn mx : Int) (kids : Fo) (X : List Nat) (w : World) (hn : kids.sz < n + 1) (hwd : Wd 1000 (.cons 4 l kids mn mx .nil)) (hc : kids.len ≤ c) (hc2 : c ≤ 9223372036854775807) (hat : At w X kids A) (hX : ∀ x ∈ X, x < w.heap.size) :
    Calls Tryz.prog 53 #[.agg #[.int .i64 4, .string l, .slice A kids.len c, .int .i64 mn, .int .i64 mx]] w (MadeP w X (tu1 4 l (tuL kids) mn mx)) := by
  obtain ⟨iP, hi, hz0, hz1, hz2⟩ := iPath
  have hkl : kids.len ≤ 1000 := hwd.1
  have HN := Lib.hid hn
  have HV := Lib.hid hwd.2.1
  have IH := Lib.hid ih
  have HAT := Lib.hid hat
  have HTU := Lib.hid (show Fo.cons 4 ⟨#[]⟩ (tuL (ordF 4 kids)) 0 0 .nil = tu1 4 l (tuL kids) mn mx by rw [ord_tu]; rfl)
  have HX := Lib.hid (show ∀ x ∈ (w.heap.size + 2) :: (w.heap.size + 1) :: X, x < w.heap.size + 3 from fun x hx => by
    simp only [List.mem_cons] at hx
    rcases hx with rfl | rfl | hx
    · omega
    · omega
    · have := hX x hx; omega)
  have HFR := Lib.hid (show ∀ (lv : Value) (q : Nat) (f : Fo) (wr : World), RowN wr (w.heap.size + 3) ((w.heap.size + 2) :: (w.heap.size + 1) :: X) lv q f → ∀ y ∈ vb lv ++ (w.heap.size + 2) :: (w.heap.size + 1) :: X, y ∈ X ∨ w.heap.size ≤ y from fun lv q f wr h y hy => by
    rw [List.mem_append, List.mem_cons, List.mem_cons] at hy
    rcases hy with hy | rfl | rfl | hy
    · exact Or.inr (by have := h.lt y hy; omega)
    · exact Or.inr (by omega)
    · exact Or.inr (by omega)
    · exact Or.inl hy)
  have HW0 := Lib.hid (show ∀ o1 o2 o3 : Obj, Below w.heap.size w (((w.alloc o1).alloc o2).alloc o3) ∧ (((w.alloc o1).alloc o2).alloc o3).heap.size = w.heap.size + 3 from fun o1 o2 o3 => ⟨(((Below.refl _ w).alloc (by simp) _).alloc (by simp) _).alloc (by simp; omega) _, by simp⟩)
  have HK0 := Lib.hid (((Bx.new w (.int .i64 4) (.string l) (.slice A kids.len c) (.int .i64 mn) (.int .i64 mx) 24).al obj50).al (obj5 4 ⟨#[]⟩ none 0 0 0 0))
  have HR0 := Lib.hid (show Bx (((w.alloc (obj5 4 l A kids.len c mn mx)).alloc obj50).alloc (obj5 4 ⟨#[]⟩ none 0 0 0 0)) (w.heap.size + 1) (.int .i64 0) (.string ⟨#[]⟩) (.slice none 0 0) (.int .i64 0) (.int .i64 0) from by
    have := (Bx.new (w.alloc (obj5 4 l A kids.len c mn mx)) (.int .i64 0) (.string ⟨#[]⟩) (.slice none 0 0) (.int .i64 0) (.int .i64 0) 24).al (obj5 4 ⟨#[]⟩ none 0 0 0 0)
    simpa using this)
  have HT0 := Lib.hid (show Bx (((w.alloc (obj5 4 l A kids.len c mn mx)).alloc obj50).alloc (obj5 4 ⟨#[]⟩ none 0 0 0 0)) (w.heap.size + 2) (.int .i64 4) (.string ⟨#[]⟩) (.slice none 0 0) (.int .i64 0) (.int .i64 0) from by
    have := Bx.new ((w.alloc (obj5 4 l A kids.len c mn mx)).alloc obj50) (.int .i64 4) (.string ⟨#[]⟩) (.slice none 0 0) (.int .i64 0) (.int .i64 0) 24
    simpa using this)
  have HS0 := Lib.hid (RowN.none (((w.alloc (obj5 4 l A kids.len c mn mx)).alloc obj50).alloc (obj5 4 ⟨#[]⟩ none 0 0 0 0)) (w.heap.size + 3) ((w.heap.size + 2) :: (w.heap.size + 1) :: X))
  clear hat hn ih hX hwd
  go_enter Tryz.func53, Tryz.ntmps53
  go_wp2_with fail
  go_loopw [4] (fun iv wr => ∃ (q : Nat) (dn r : Fo) (lv : Value), Hid (ordF 4 kids = dn.app r) ∧ Hid (dn.len = q) ∧ iv = .int .i64 q ∧ Hid (RowN wr (w.heap.size + 3) ((w.heap.size + 2) :: (w.heap.size + 1) :: X) lv q (tuL dn)) ∧ Hid (Bx wr w.heap.size (.int .i64 4) (.string l) (.slice A kids.len c) (.int .i64 mn) (.int .i64 mx)) ∧ Hid (Bx wr (w.heap.size + 1) (.int .i64 0) (.string ⟨#[]⟩) (.slice none 0 0) (.int .i64 0) (.int .i64 0)) ∧ Hid (Bx wr (w.heap.size + 2) (.int .i64 4) (.string ⟨#[]⟩) lv (.int .i64 0) (.int .i64 0)) ∧ Hid (Below w.heap.size w wr) ∧ Hid (w.heap.size + 3 ≤ wr.heap.size)) (fun iv _ => kids.len - (RowKit.intOf iv).toNat)
  case atStart => exact ⟨0, .nil, ordF 4 kids, _, Lib.hid rfl, Lib.hid rfl, rfl, HS0, HK0, HR0, HT0, Lib.hid (HW0.out _ _ _).1, Lib.hid (Nat.le_of_eq (HW0.out _ _ _).2.symm)⟩
  case round =>
    obtain ⟨q, dn, r, lv, hk, hq, rfl, HS, HK, HR, HT, HB, HZ⟩ := hrel
    clear HS0 HK0 HR0 HT0 HW0
    have hlen := Lib.hid (show kids.len = q + r.len by rw [← ordF_len 4 kids, hk.out, Fo.app_len, hq.out])
    obtain ⟨⟨x0, x1, x2, x3, x4⟩, y0, y1, y2, y3, y4⟩ := bx_all (HK.out)
    cases r with
    | cons k1 l1 d1 mn1 mx1 r1 =>
      have hlt : (q : Int) < kids.len := by have := hlen.out; simp only [Fo.len] at this; omega
      have hlt2 : decide (q < kids.len) = true := decide_eq_true (by omega)
      have hq0 : (0 : Int) ≤ q := by omega
      obtain ⟨dn2, r2, hk2, hpos⟩ := ord_at hk.out
      obtain ⟨p, hp⟩ : ∃ p, dn2.len = p := ⟨_, rfl⟩
      have hpq : p = kids.len - 1 - q := by rw [← hp, hpos, if_pos rfl, hq.out]
      have hpl : p < kids.len := by omega
      have tw1 : IntKind.i64.wrap ((kids.len : Int) - 1) = (kids.len : Int) - 1 := IntWalk.i64_in _ ⟨by omega, by omega⟩
      have tw2 : IntKind.i64.wrap ((kids.len : Int) - 1 - (q : Int)) = (p : Int) := (IntWalk.i64_in _ ⟨by omega, by omega⟩).trans (by omega)
      have hpi : (p : Int) < kids.len := by omega
      have hp0 : (0 : Int) ≤ p := by omega
      obtain ⟨b0, o0, rfl⟩ := at_shape HAT.out (by rw [hk2, Fo.app_len]; simp only [Fo.len]; omega)
      have h3 := (HAT.out.grow (HFR.out _ _ _ _ HS.out)).below HB.out
      rw [hk2] at h3
      obtain ⟨K1, c1, hcel, hc3, hc4, hat1⟩ := h3.nth hp
      obtain ⟨e0, e1, e2, e3, e4⟩ := hcel
      have hsz : d1.sz < n := by
        have h5 := congrArg Fo.sz hk2
        rw [Fo.app_sz] at h5
        have h6 := HN.out
        simp only [Fo.sz] at h5
        omega
      have hwk : Wd 1000 (.cons k1 l1 d1 mn1 mx1 .nil) := by
        have h5 := HV.out
        rw [hk2, Wd.app] at h5
        exact ⟨h5.2.1, h5.2.2.1, trivial⟩
      have hq60 : q ≤ 1000 := by omega
      have HSB := Lib.hid (show Below wr.heap.size wr wr.drew from (Below.refl _ _).drew)
      have HCALL := Lib.hid (IH.out ⟨k1, l1, K1, c1, mn1, mx1, d1⟩ (vb lv ++ (w.heap.size + 2) :: (w.heap.size + 1) :: X) wr.drew hsz hwk (Nd.ok.below ⟨hc3, hc4, hat1⟩ HSB.out) (fun x hx => lt_of HS.out HX.out HZ.out x hx))
      unfold Nd.v at HCALL
      simp only at HCALL
      have HKK := Lib.hid (show tuL (dn.app (.cons k1 l1 d1 mn1 mx1 .nil)) = (tuL dn).app (tu1 k1 l1 (tuL d1) mn1 mx1) by rw [tuL_app]; congr 1)
      have hkk := Lib.hid (show ordF 4 kids = (dn.app (.cons k1 l1 d1 mn1 mx1 .nil)).app r1 by rw [hk.out, Fo.app_assoc]; rfl)
      have hqq := Lib.hid (show (dn.app (.cons k1 l1 d1 mn1 mx1 .nil)).len = q + 1 by rw [Fo.app_len, hq.out]; rfl)
      obtain ⟨⟨p0, p1, p2, p3, p4⟩, o0', o1', o2', o3', o4'⟩ := bx_all (HT.out)
      have HT1 := Lib.hid (HT.out.below HSB.out)
      have hzz : w.heap.size + 3 ≤ wr.heap.size := HZ.out
      have hlt3 : w.heap.size + 2 < wr.heap.size := by omega
      clear h3 hat1 hsz hk2 hwk hp hpos hpq
      go_wp2_with fail
      go_region_law (first
        | (go_simp; go_at_call 53; (with_reducible refine (HCALL.out).mono ?_); rintro e w2 ⟨⟨k2, l2, A2, c2, mn2, mx2, d2⟩, rfl, hfo2, hok2, hb2⟩; have HF2 := Lib.hid hfo2; have HO2 := Lib.hid hok2; have HB2 := Lib.hid hb2; clear hfo2 hok2 hb2; have HB2b := Lib.hid (HSB.out.trans (HB2.out.mono HSB.out.size)); have hlt32 : w.heap.size + 2 < w2.heap.size := Nat.lt_of_lt_of_le hlt3 HB2b.out.size; have HS2 := Lib.hid (HS.out.below HB2b.out); have HZ2 := Lib.hid (Nat.le_trans HZ.out HB2b.out.size); have HT2 := Lib.hid (HT.out.below HB2b.out); obtain ⟨⟨r0, r1', r2, r3, r4⟩, s0, s1, s2, s3, s4⟩ := bx_all HT2.out; obtain ⟨cs8, hown8, hcs8⟩ := HS2.out.own; have HCS8 := Lib.hid hcs8; have HOWN8 := Lib.hid (hown8.alloc (obj5 k2 l2 A2 d2.len c2 mn2 mx2)); clear hown8 hcs8)
        | (refine step_append_any _ rfl (.tmp 49) (.tmp 56) 22 rfl (w.heap.size + 3) 24 iP _ 5 64 Tryz.underlying22 hi hz0 hz1 hz2 rfl (by decide) lv q cs8 rfl HOWN8.out (w2.heap.size + 1) (some ⟨w2.heap.size, 0, none⟩) 1 1 [.int .i64 k2, .string l2, .slice A2 d2.len c2, .int .i64 mn2, .int .i64 mx2] rfl (reads5 w2 _ _ _ _ _ _) (csl_one _ _ _ _ _ _ _) (by unfold maxLen; omega) (by omega) (by have := HZ2.out; simp; omega) ?_; intro v8 w8 hown8 hgrow8 hat8; obtain ⟨HS8, HB8, HZ8⟩ := HS2.out.push_all k2 l2 A2 c2 mn2 mx2 d2 HO2.out HCS8.out HZ2.out hown8 hgrow8 hat8; clear hown8 hgrow8 hat8; obtain ⟨A8, c8, hv8, hvc1, hvc2, hvc3⟩ := HS8.out.at HX.out; subst hv8; clear hvc1 hvc2 hvc3; obtain ⟨⟨t0, t1, t2', t3', t4'⟩, j0, j1, j2, j3, j4⟩ := bx_all (HT2.out.at_below HB8.out (by omega))))
      all_goals
        go_wp2_with fail
        exact ⟨⟨q + 1, _, r1, .slice A8 (q + 1) c8, hkk, hqq, by go_num, Lib.hid (by rw [HKK.out, ← HF2.out]; exact HS8.out.set (p := ⟨w.heap.size + 2, 2, none⟩) (by simp) (fun hx => by have := HS8.out.lt _ hx; simp at this <;> omega) _), Lib.hid (((HK.out.below HB2b.out).at_below HB8.out (by omega)).far (p := ⟨w.heap.size + 2, 2, none⟩) (by simp) _), Lib.hid (((HR.out.below HB2b.out).at_below HB8.out (by omega)).far (p := ⟨w.heap.size + 2, 2, none⟩) (by simp) _), Lib.hid ((HT2.out.at_below HB8.out (by omega)).set2 _), Lib.hid ((bt (bt HB.out HB2b.out HB.out.size) HB8.out (by omega)).setCell (p := ⟨w.heap.size + 2, 2, none⟩) (by simp <;> omega) _), Lib.hid (by have := HZ8.out; have := HZ2.out; simp [World.setCell] <;> omega)⟩, by simp [RowKit.intOf] <;> omega⟩
    | nil =>
      have hlt : ¬ (q : Int) < kids.len := by have := hlen.out; simp only [Fo.len] at this; omega
      have hlt2 : decide (q < kids.len) = false := decide_eq_false (by have := hlen.out; simp only [Fo.len] at this; omega)
      have hdk : ordF 4 kids = dn := by have := hk.out; rw [Fo.app_nil] at this; exact this
      obtain ⟨A8, c8, rfl, hv1, hv2, hv3⟩ := HS.out.at HX.out
      have hql : (tuL dn).len = q := by rw [tuL_len]; exact hq.out
      have HOK := Lib.hid (show Nd.ok wr ((w.heap.size + 2) :: (w.heap.size + 1) :: X) ⟨4, ⟨#[]⟩, A8, c8, 0, 0, tuL dn⟩ from ⟨by rw [hql]; exact hv1, hv2, hv3⟩)
      have HTE := Lib.hid (show Fo.cons 4 ⟨#[]⟩ (tuL dn) 0 0 .nil = tu1 4 l (tuL kids) mn mx by rw [← hdk]; exact HTU.out)
      have HLS := Lib.hid (show ∀ y, y ∈ (w.heap.size + 1) :: X → y ∈ (w.heap.size + 2) :: (w.heap.size + 1) :: X from fun y hy => List.mem_cons_of_mem _ hy)
      have HQL := Lib.hid hql
      clear hv3 hdk hk hq hlen hql
      obtain ⟨⟨z0, z1, z2, z3, z4⟩, t0, t1, t2', t3', t4'⟩ := bx_all (HR.out)
      obtain ⟨⟨p0, p1, p2, p3, p4⟩, o0, o1, o2, o3, o4⟩ := bx_all (HT.out)
      have hbz : w.heap.size + 3 ≤ wr.heap.size := HZ.out
      go_wp2_with fail
      exact bodyPost_ret (v := (⟨4, ⟨#[]⟩, A8, c8, 0, 0, tuL dn⟩ : Nd).v) (by simp [results, Tryz.results53, go_sem, z0, z1, z2, z3, z4, HQL.out]) rfl (made_w5 (w := w) (a := ⟨4, ⟨#[]⟩, A8, c8, 0, 0, tuL dn⟩) (b := w.heap.size + 1) HTE.out (HOK.out.less HLS.out) HB.out (by omega) (.int .i64 4) (.string ⟨#[]⟩) (.slice A8 q c8) (.int .i64 0) (.int .i64 0))
set_option maxRecDepth 100000 in
set_option maxHeartbeats 16000000 in
theorem rturn_9 (n : Nat) (ih : TuR n) (l : ByteArray) (A : Option Addr) (c : Nat) (mn mx : Int) (kids : Fo) (X : List Nat) (w : World) (hn : kids.sz < n + 1) (hwd : Wd 1000 (.cons 9 l kids mn mx .nil)) (hc : kids.len ≤ c) (hc2 : c ≤ 9223372036854775807) (hat : At w X kids A) (hX : ∀ x ∈ X, x < w.heap.size) :
    Calls Tryz.prog 53 #[.agg #[.int .i64 9, .string l, .slice A kids.len c, .int .i64 mn, .int .i64 mx]] w (MadeP w X (tu1 9 l (tuL kids) mn mx)) := by
  obtain ⟨iP, hi, hz0, hz1, hz2⟩ := iPath
  have hkl : kids.len ≤ 1000 := hwd.1
  have HN := Lib.hid hn
  have HV := Lib.hid hwd.2.1
  have IH := Lib.hid ih
  have HAT := Lib.hid hat
  have HTU := Lib.hid (show Fo.cons 9 ⟨#[]⟩ (tuL (ordF 9 kids)) mn mx .nil = tu1 9 l (tuL kids) mn mx by rw [ord_tu]; rfl)
  have HX := Lib.hid (show ∀ x ∈ (w.heap.size + 2) :: (w.heap.size + 1) :: X, x < w.heap.size + 3 from fun x hx => by
    simp only [List.mem_cons] at hx
    rcases hx with rfl | rfl | hx
    · omega
    · omega
    · have := hX x hx; omega)
  have HFR := Lib.hid (show ∀ (lv : Value) (q : Nat) (f : Fo) (wr : World), RowN wr (w.heap.size + 3) ((w.heap.size + 2) :: (w.heap.size + 1) :: X) lv q f → ∀ y ∈ vb lv ++ (w.heap.size + 2) :: (w.heap.size + 1) :: X, y ∈ X ∨ w.heap.size ≤ y from fun lv q f wr h y hy => by
    rw [List.mem_append, List.mem_cons, List.mem_cons] at hy
    rcases hy with hy | rfl | rfl | hy
    · exact Or.inr (by have := h.lt y hy; omega)
    · exact Or.inr (by omega)
    · exact Or.inr (by omega)
    · exact Or.inl hy)
  have HW0 := Lib.hid (show ∀ o1 o2 o3 : Obj, Below w.heap.size w (((w.alloc o1).alloc o2).alloc o3) ∧ (((w.alloc o1).alloc o2).alloc o3).heap.size = w.heap.size + 3 from fun o1 o2 o3 => ⟨(((Below.refl _ w).alloc (by simp) _).alloc (by simp) _).alloc (by simp; omega) _, by simp⟩)
  have HK0 := Lib.hid (((Bx.new w (.int .i64 9) (.string l) (.slice A kids.len c) (.int .i64 mn) (.int .i64 mx) 24).al obj50).al (obj5 9 ⟨#[]⟩ none 0 0 mn mx))
  have HR0 := Lib.hid (show Bx (((w.alloc (obj5 9 l A kids.len c mn mx)).alloc obj50).alloc (obj5 9 ⟨#[]⟩ none 0 0 mn mx)) (w.heap.size + 1) (.int .i64 0) (.string ⟨#[]⟩) (.slice none 0 0) (.int .i64 0) (.int .i64 0) from by
    have := (Bx.new (w.alloc (obj5 9 l A kids.len c mn mx)) (.int .i64 0) (.string ⟨#[]⟩) (.slice none 0 0) (.int .i64 0) (.int .i64 0) 24).al (obj5 9 ⟨#[]⟩ none 0 0 mn mx)
    simpa using this)
  have HT0 := Lib.hid (show Bx (((w.alloc (obj5 9 l A kids.len c mn mx)).alloc obj50).alloc (obj5 9 ⟨#[]⟩ none 0 0 mn mx)) (w.heap.size + 2) (.int .i64 9) (.string ⟨#[]⟩) (.slice none 0 0) (.int .i64 mn) (.int .i64 mx) from by
    have := Bx.new ((w.alloc (obj5 9 l A kids.len c mn mx)).alloc obj50) (.int .i64 9) (.string ⟨#[]⟩) (.slice none 0 0) (.int .i64 mn) (.int .i64 mx) 24
    simpa using this)
  have HS0 := Lib.hid (RowN.none (((w.alloc (obj5 9 l A kids.len c mn mx)).alloc obj50).alloc (obj5 9 ⟨#[]⟩ none 0 0 mn mx)) (w.heap.size + 3) ((w.heap.size + 2) :: (w.heap.size + 1) :: X))
  clear hat hn ih hX hwd
  go_enter Tryz.func53, Tryz.ntmps53
  go_wp2_with fail
  go_loopw [4] (fun iv wr => ∃ (q : Nat) (dn r : Fo) (lv : Value), Hid (ordF 9 kids = dn.app r) ∧ Hid (dn.len = q) ∧ iv = .int .i64 q ∧ Hid (RowN wr (w.heap.size + 3) ((w.heap.size + 2) :: (w.heap.size + 1) :: X) lv q (tuL dn)) ∧ Hid (Bx wr w.heap.size (.int .i64 9) (.string l) (.slice A kids.len c) (.int .i64 mn) (.int .i64 mx)) ∧ Hid (Bx wr (w.heap.size + 1) (.int .i64 0) (.string ⟨#[]⟩) (.slice none 0 0) (.int .i64 0) (.int .i64 0)) ∧ Hid (Bx wr (w.heap.size + 2) (.int .i64 9) (.string ⟨#[]⟩) lv (.int .i64 mn) (.int .i64 mx)) ∧ Hid (Below w.heap.size w wr) ∧ Hid (w.heap.size + 3 ≤ wr.heap.size)) (fun iv _ => kids.len - (RowKit.intOf iv).toNat)
  case atStart => exact ⟨0, .nil, ordF 9 kids, _, Lib.hid rfl, Lib.hid rfl, rfl, HS0, HK0, HR0, HT0, Lib.hid (HW0.out _ _ _).1, Lib.hid (Nat.le_of_eq (HW0.out _ _ _).2.symm)⟩
  case round =>
    obtain ⟨q, dn, r, lv, hk, hq, rfl, HS, HK, HR, HT, HB, HZ⟩ := hrel
    clear HS0 HK0 HR0 HT0 HW0
    have hlen := Lib.hid (show kids.len = q + r.len by rw [← ordF_len 9 kids, hk.out, Fo.app_len, hq.out])
    obtain ⟨⟨x0, x1, x2, x3, x4⟩, y0, y1, y2, y3, y4⟩ := bx_all (HK.out)
    cases r with
    | cons k1 l1 d1 mn1 mx1 r1 =>
      have hlt : (q : Int) < kids.len := by have := hlen.out; simp only [Fo.len] at this; omega
      have hlt2 : decide (q < kids.len) = true := decide_eq_true (by omega)
      have hq0 : (0 : Int) ≤ q := by omega
      obtain ⟨dn2, r2, hk2, hpos⟩ := ord_at hk.out
      obtain ⟨p, hp⟩ : ∃ p, dn2.len = p := ⟨_, rfl⟩
      obtain rfl : p = q := by rw [← hp, hpos, if_neg (by decide), hq.out]
      obtain ⟨b0, o0, rfl⟩ := at_shape HAT.out (by rw [hk2, Fo.app_len]; simp only [Fo.len]; omega)
      have h3 := (HAT.out.grow (HFR.out _ _ _ _ HS.out)).below HB.out
      rw [hk2] at h3
      obtain ⟨K1, c1, hcel, hc3, hc4, hat1⟩ := h3.nth hp
      obtain ⟨e0, e1, e2, e3, e4⟩ := hcel
      have hsz : d1.sz < n := by
        have h5 := congrArg Fo.sz hk2
        rw [Fo.app_sz] at h5
        have h6 := HN.out
        simp only [Fo.sz] at h5
        omega
      have hwk : Wd 1000 (.cons k1 l1 d1 mn1 mx1 .nil) := by
        have h5 := HV.out
        rw [hk2, Wd.app] at h5
        exact ⟨h5.2.1, h5.2.2.1, trivial⟩
      have hq60 : p ≤ 1000 := by omega
      have HSB := Lib.hid (show Below wr.heap.size wr wr.drew from (Below.refl _ _).drew)
      have HCALL := Lib.hid (IH.out ⟨k1, l1, K1, c1, mn1, mx1, d1⟩ (vb lv ++ (w.heap.size + 2) :: (w.heap.size + 1) :: X) wr.drew hsz hwk (Nd.ok.below ⟨hc3, hc4, hat1⟩ HSB.out) (fun x hx => lt_of HS.out HX.out HZ.out x hx))
      unfold Nd.v at HCALL
      simp only at HCALL
      have HKK := Lib.hid (show tuL (dn.app (.cons k1 l1 d1 mn1 mx1 .nil)) = (tuL dn).app (tu1 k1 l1 (tuL d1) mn1 mx1) by rw [tuL_app]; congr 1)
      have hkk := Lib.hid (show ordF 9 kids = (dn.app (.cons k1 l1 d1 mn1 mx1 .nil)).app r1 by rw [hk.out, Fo.app_assoc]; rfl)
      have hqq := Lib.hid (show (dn.app (.cons k1 l1 d1 mn1 mx1 .nil)).len = p + 1 by rw [Fo.app_len, hq.out]; rfl)
      obtain ⟨⟨p0, p1, p2, p3, p4⟩, o0', o1', o2', o3', o4'⟩ := bx_all (HT.out)
      have HT1 := Lib.hid (HT.out.below HSB.out)
      have hzz : w.heap.size + 3 ≤ wr.heap.size := HZ.out
      have hlt3 : w.heap.size + 2 < wr.heap.size := by omega
      clear h3 hat1 hsz hk2 hwk hp hpos
      go_wp2_with fail
      go_region_law (first
        | (go_simp; go_at_call 53; (with_reducible refine (HCALL.out).mono ?_); rintro e w2 ⟨⟨k2, l2, A2, c2, mn2, mx2, d2⟩, rfl, hfo2, hok2, hb2⟩; have HF2 := Lib.hid hfo2; have HO2 := Lib.hid hok2; have HB2 := Lib.hid hb2; clear hfo2 hok2 hb2; have HB2b := Lib.hid (HSB.out.trans (HB2.out.mono HSB.out.size)); have hlt32 : w.heap.size + 2 < w2.heap.size := Nat.lt_of_lt_of_le hlt3 HB2b.out.size; have HS2 := Lib.hid (HS.out.below HB2b.out); have HZ2 := Lib.hid (Nat.le_trans HZ.out HB2b.out.size); have HT2 := Lib.hid (HT.out.below HB2b.out); obtain ⟨⟨r0, r1', r2, r3, r4⟩, s0, s1, s2, s3, s4⟩ := bx_all HT2.out; obtain ⟨cs8, hown8, hcs8⟩ := HS2.out.own; have HCS8 := Lib.hid hcs8; have HOWN8 := Lib.hid (hown8.alloc (obj5 k2 l2 A2 d2.len c2 mn2 mx2)); clear hown8 hcs8)
        | (refine step_append_any _ rfl (.tmp 49) (.tmp 56) 22 rfl (w.heap.size + 3) 24 iP _ 5 64 Tryz.underlying22 hi hz0 hz1 hz2 rfl (by decide) lv p cs8 rfl HOWN8.out (w2.heap.size + 1) (some ⟨w2.heap.size, 0, none⟩) 1 1 [.int .i64 k2, .string l2, .slice A2 d2.len c2, .int .i64 mn2, .int .i64 mx2] rfl (reads5 w2 _ _ _ _ _ _) (csl_one _ _ _ _ _ _ _) (by unfold maxLen; omega) (by omega) (by have := HZ2.out; simp; omega) ?_; intro v8 w8 hown8 hgrow8 hat8; obtain ⟨HS8, HB8, HZ8⟩ := HS2.out.push_all k2 l2 A2 c2 mn2 mx2 d2 HO2.out HCS8.out HZ2.out hown8 hgrow8 hat8; clear hown8 hgrow8 hat8; obtain ⟨A8, c8, hv8, hvc1, hvc2, hvc3⟩ := HS8.out.at HX.out; subst hv8; clear hvc1 hvc2 hvc3; obtain ⟨⟨t0, t1, t2', t3', t4'⟩, j0, j1, j2, j3, j4⟩ := bx_all (HT2.out.at_below HB8.out (by omega))))
      all_goals
        go_wp2_with fail
        exact ⟨⟨p + 1, _, r1, .slice A8 (p + 1) c8, hkk, hqq, by go_num, Lib.hid (by rw [HKK.out, ← HF2.out]; exact HS8.out.set (p := ⟨w.heap.size + 2, 2, none⟩) (by simp) (fun hx => by have := HS8.out.lt _ hx; simp at this <;> omega) _), Lib.hid (((HK.out.below HB2b.out).at_below HB8.out (by omega)).far (p := ⟨w.heap.size + 2, 2, none⟩) (by simp) _), Lib.hid (((HR.out.below HB2b.out).at_below HB8.out (by omega)).far (p := ⟨w.heap.size + 2, 2, none⟩) (by simp) _), Lib.hid ((HT2.out.at_below HB8.out (by omega)).set2 _), Lib.hid ((bt (bt HB.out HB2b.out HB.out.size) HB8.out (by omega)).setCell (p := ⟨w.heap.size + 2, 2, none⟩) (by simp <;> omega) _), Lib.hid (by have := HZ8.out; have := HZ2.out; simp [World.setCell] <;> omega)⟩, by simp [RowKit.intOf] <;> omega⟩
    | nil =>
      have hlt : ¬ (q : Int) < kids.len := by have := hlen.out; simp only [Fo.len] at this; omega
      have hlt2 : decide (q < kids.len) = false := decide_eq_false (by have := hlen.out; simp only [Fo.len] at this; omega)
      have hdk : ordF 9 kids = dn := by have := hk.out; rw [Fo.app_nil] at this; exact this
      obtain ⟨A8, c8, rfl, hv1, hv2, hv3⟩ := HS.out.at HX.out
      have hql : (tuL dn).len = q := by rw [tuL_len]; exact hq.out
      have HOK := Lib.hid (show Nd.ok wr ((w.heap.size + 2) :: (w.heap.size + 1) :: X) ⟨9, ⟨#[]⟩, A8, c8, mn, mx, tuL dn⟩ from ⟨by rw [hql]; exact hv1, hv2, hv3⟩)
      have HTE := Lib.hid (show Fo.cons 9 ⟨#[]⟩ (tuL dn) mn mx .nil = tu1 9 l (tuL kids) mn mx by rw [← hdk]; exact HTU.out)
      have HLS := Lib.hid (show ∀ y, y ∈ (w.heap.size + 1) :: X → y ∈ (w.heap.size + 2) :: (w.heap.size + 1) :: X from fun y hy => List.mem_cons_of_mem _ hy)
      have HQL := Lib.hid hql
      clear hv3 hdk hk hq hlen hql
      obtain ⟨⟨z0, z1, z2, z3, z4⟩, t0, t1, t2', t3', t4'⟩ := bx_all (HR.out)
      obtain ⟨⟨p0, p1, p2, p3, p4⟩, o0, o1, o2, o3, o4⟩ := bx_all (HT.out)
      have hbz : w.heap.size + 3 ≤ wr.heap.size := HZ.out
      go_wp2_with fail
      exact bodyPost_ret (v := (⟨9, ⟨#[]⟩, A8, c8, mn, mx, tuL dn⟩ : Nd).v) (by simp [results, Tryz.results53, go_sem, z0, z1, z2, z3, z4, HQL.out]) rfl (made_w5 (w := w) (a := ⟨9, ⟨#[]⟩, A8, c8, mn, mx, tuL dn⟩) (b := w.heap.size + 1) HTE.out (HOK.out.less HLS.out) HB.out (by omega) (.int .i64 9) (.string ⟨#[]⟩) (.slice A8 q c8) (.int .i64 mn) (.int .i64 mx))
set_option maxRecDepth 100000 in
set_option maxHeartbeats 16000000 in
theorem rturn_o (n : Nat) (ih : TuR n) (k : Int) (l : ByteArray) (A : Option Addr) (c : Nat) (mn mx : Int) (kids : Fo) (X : List Nat) (w : World) (hn : kids.sz < n + 1) (hwd : Wd 1000 (.cons k l kids mn mx .nil)) (hc : kids.len ≤ c) (hc2 : c ≤ 9223372036854775807) (hat : At w X kids A) (hX : ∀ x ∈ X, x < w.heap.size) (h2 : k ≠ 2) (h3 : k ≠ 3) (h4 : k ≠ 4) (h9 : k ≠ 9) :
    Calls Tryz.prog 53 #[.agg #[.int .i64 k, .string l, .slice A kids.len c, .int .i64 mn, .int .i64 mx]] w (MadeP w X (tu1 k l (tuL kids) mn mx)) := by
  obtain ⟨iP, hi, hz0, hz1, hz2⟩ := iPath
  have hkl : kids.len ≤ 1000 := hwd.1
  have HN := Lib.hid hn
  have HV := Lib.hid hwd.2.1
  have IH := Lib.hid ih
  have HAT := Lib.hid hat
  have HTU := Lib.hid (show Fo.cons k ⟨#[]⟩ (tuL (ordF k kids)) 0 0 .nil = tu1 k l (tuL kids) mn mx by rw [ord_tu]; unfold tu1; rw [if_neg h2, if_neg h3, if_neg (by omega), if_neg h4, if_neg h9, if_neg h9]; unfold dt; rw [if_neg h4])
  have t2 : (k == 2) = false := by rw [beq_eq_false_iff_ne]; exact h2
  have t3 : (k == 3) = false := by rw [beq_eq_false_iff_ne]; exact h3
  have t4 : (k == 4) = false := by rw [beq_eq_false_iff_ne]; exact h4
  have t9 : (k == 9) = false := by rw [beq_eq_false_iff_ne]; exact h9
  have HX := Lib.hid (show ∀ x ∈ (w.heap.size + 2) :: (w.heap.size + 1) :: X, x < w.heap.size + 3 from fun x hx => by
    simp only [List.mem_cons] at hx
    rcases hx with rfl | rfl | hx
    · omega
    · omega
    · have := hX x hx; omega)
  have HFR := Lib.hid (show ∀ (lv : Value) (q : Nat) (f : Fo) (wr : World), RowN wr (w.heap.size + 3) ((w.heap.size + 2) :: (w.heap.size + 1) :: X) lv q f → ∀ y ∈ vb lv ++ (w.heap.size + 2) :: (w.heap.size + 1) :: X, y ∈ X ∨ w.heap.size ≤ y from fun lv q f wr h y hy => by
    rw [List.mem_append, List.mem_cons, List.mem_cons] at hy
    rcases hy with hy | rfl | rfl | hy
    · exact Or.inr (by have := h.lt y hy; omega)
    · exact Or.inr (by omega)
    · exact Or.inr (by omega)
    · exact Or.inl hy)
  have HW0 := Lib.hid (show ∀ o1 o2 o3 : Obj, Below w.heap.size w (((w.alloc o1).alloc o2).alloc o3) ∧ (((w.alloc o1).alloc o2).alloc o3).heap.size = w.heap.size + 3 from fun o1 o2 o3 => ⟨(((Below.refl _ w).alloc (by simp) _).alloc (by simp) _).alloc (by simp; omega) _, by simp⟩)
  have HK0 := Lib.hid (((Bx.new w (.int .i64 k) (.string l) (.slice A kids.len c) (.int .i64 mn) (.int .i64 mx) 24).al obj50).al (obj5 k ⟨#[]⟩ none 0 0 0 0))
  have HR0 := Lib.hid (show Bx (((w.alloc (obj5 k l A kids.len c mn mx)).alloc obj50).alloc (obj5 k ⟨#[]⟩ none 0 0 0 0)) (w.heap.size + 1) (.int .i64 0) (.string ⟨#[]⟩) (.slice none 0 0) (.int .i64 0) (.int .i64 0) from by
    have := (Bx.new (w.alloc (obj5 k l A kids.len c mn mx)) (.int .i64 0) (.string ⟨#[]⟩) (.slice none 0 0) (.int .i64 0) (.int .i64 0) 24).al (obj5 k ⟨#[]⟩ none 0 0 0 0)
    simpa using this)
  have HT0 := Lib.hid (show Bx (((w.alloc (obj5 k l A kids.len c mn mx)).alloc obj50).alloc (obj5 k ⟨#[]⟩ none 0 0 0 0)) (w.heap.size + 2) (.int .i64 k) (.string ⟨#[]⟩) (.slice none 0 0) (.int .i64 0) (.int .i64 0) from by
    have := Bx.new ((w.alloc (obj5 k l A kids.len c mn mx)).alloc obj50) (.int .i64 k) (.string ⟨#[]⟩) (.slice none 0 0) (.int .i64 0) (.int .i64 0) 24
    simpa using this)
  have HS0 := Lib.hid (RowN.none (((w.alloc (obj5 k l A kids.len c mn mx)).alloc obj50).alloc (obj5 k ⟨#[]⟩ none 0 0 0 0)) (w.heap.size + 3) ((w.heap.size + 2) :: (w.heap.size + 1) :: X))
  clear hat hn ih hX hwd
  go_enter Tryz.func53, Tryz.ntmps53
  go_wp2_with fail
  go_loopw [4] (fun iv wr => ∃ (q : Nat) (dn r : Fo) (lv : Value), Hid (ordF k kids = dn.app r) ∧ Hid (dn.len = q) ∧ iv = .int .i64 q ∧ Hid (RowN wr (w.heap.size + 3) ((w.heap.size + 2) :: (w.heap.size + 1) :: X) lv q (tuL dn)) ∧ Hid (Bx wr w.heap.size (.int .i64 k) (.string l) (.slice A kids.len c) (.int .i64 mn) (.int .i64 mx)) ∧ Hid (Bx wr (w.heap.size + 1) (.int .i64 0) (.string ⟨#[]⟩) (.slice none 0 0) (.int .i64 0) (.int .i64 0)) ∧ Hid (Bx wr (w.heap.size + 2) (.int .i64 k) (.string ⟨#[]⟩) lv (.int .i64 0) (.int .i64 0)) ∧ Hid (Below w.heap.size w wr) ∧ Hid (w.heap.size + 3 ≤ wr.heap.size)) (fun iv _ => kids.len - (RowKit.intOf iv).toNat)
  case atStart => exact ⟨0, .nil, ordF k kids, _, Lib.hid rfl, Lib.hid rfl, rfl, HS0, HK0, HR0, HT0, Lib.hid (HW0.out _ _ _).1, Lib.hid (Nat.le_of_eq (HW0.out _ _ _).2.symm)⟩
  case round =>
    obtain ⟨q, dn, r, lv, hk, hq, rfl, HS, HK, HR, HT, HB, HZ⟩ := hrel
    clear HS0 HK0 HR0 HT0 HW0
    have hlen := Lib.hid (show kids.len = q + r.len by rw [← ordF_len k kids, hk.out, Fo.app_len, hq.out])
    obtain ⟨⟨x0, x1, x2, x3, x4⟩, y0, y1, y2, y3, y4⟩ := bx_all (HK.out)
    cases r with
    | cons k1 l1 d1 mn1 mx1 r1 =>
      have hlt : (q : Int) < kids.len := by have := hlen.out; simp only [Fo.len] at this; omega
      have hlt2 : decide (q < kids.len) = true := decide_eq_true (by omega)
      have hq0 : (0 : Int) ≤ q := by omega
      obtain ⟨dn2, r2, hk2, hpos⟩ := ord_at hk.out
      obtain ⟨p, hp⟩ : ∃ p, dn2.len = p := ⟨_, rfl⟩
      obtain rfl : p = q := by rw [← hp, hpos, if_neg h4, hq.out]
      obtain ⟨b0, o0, rfl⟩ := at_shape HAT.out (by rw [hk2, Fo.app_len]; simp only [Fo.len]; omega)
      have h3 := (HAT.out.grow (HFR.out _ _ _ _ HS.out)).below HB.out
      rw [hk2] at h3
      obtain ⟨K1, c1, hcel, hc3, hc4, hat1⟩ := h3.nth hp
      obtain ⟨e0, e1, e2, e3, e4⟩ := hcel
      have hsz : d1.sz < n := by
        have h5 := congrArg Fo.sz hk2
        rw [Fo.app_sz] at h5
        have h6 := HN.out
        simp only [Fo.sz] at h5
        omega
      have hwk : Wd 1000 (.cons k1 l1 d1 mn1 mx1 .nil) := by
        have h5 := HV.out
        rw [hk2, Wd.app] at h5
        exact ⟨h5.2.1, h5.2.2.1, trivial⟩
      have hq60 : p ≤ 1000 := by omega
      have HSB := Lib.hid (show Below wr.heap.size wr wr.drew from (Below.refl _ _).drew)
      have HCALL := Lib.hid (IH.out ⟨k1, l1, K1, c1, mn1, mx1, d1⟩ (vb lv ++ (w.heap.size + 2) :: (w.heap.size + 1) :: X) wr.drew hsz hwk (Nd.ok.below ⟨hc3, hc4, hat1⟩ HSB.out) (fun x hx => lt_of HS.out HX.out HZ.out x hx))
      unfold Nd.v at HCALL
      simp only at HCALL
      have HKK := Lib.hid (show tuL (dn.app (.cons k1 l1 d1 mn1 mx1 .nil)) = (tuL dn).app (tu1 k1 l1 (tuL d1) mn1 mx1) by rw [tuL_app]; congr 1)
      have hkk := Lib.hid (show ordF k kids = (dn.app (.cons k1 l1 d1 mn1 mx1 .nil)).app r1 by rw [hk.out, Fo.app_assoc]; rfl)
      have hqq := Lib.hid (show (dn.app (.cons k1 l1 d1 mn1 mx1 .nil)).len = p + 1 by rw [Fo.app_len, hq.out]; rfl)
      obtain ⟨⟨p0, p1, p2, p3, p4⟩, o0', o1', o2', o3', o4'⟩ := bx_all (HT.out)
      have HT1 := Lib.hid (HT.out.below HSB.out)
      have hzz : w.heap.size + 3 ≤ wr.heap.size := HZ.out
      have hlt3 : w.heap.size + 2 < wr.heap.size := by omega
      clear h3 hat1 hsz hk2 hwk hp hpos
      go_wp2_with fail
      go_region_law (first
        | (go_simp; go_at_call 53; (with_reducible refine (HCALL.out).mono ?_); rintro e w2 ⟨⟨k2, l2, A2, c2, mn2, mx2, d2⟩, rfl, hfo2, hok2, hb2⟩; have HF2 := Lib.hid hfo2; have HO2 := Lib.hid hok2; have HB2 := Lib.hid hb2; clear hfo2 hok2 hb2; have HB2b := Lib.hid (HSB.out.trans (HB2.out.mono HSB.out.size)); have hlt32 : w.heap.size + 2 < w2.heap.size := Nat.lt_of_lt_of_le hlt3 HB2b.out.size; have HS2 := Lib.hid (HS.out.below HB2b.out); have HZ2 := Lib.hid (Nat.le_trans HZ.out HB2b.out.size); have HT2 := Lib.hid (HT.out.below HB2b.out); obtain ⟨⟨r0, r1', r2, r3, r4⟩, s0, s1, s2, s3, s4⟩ := bx_all HT2.out; obtain ⟨cs8, hown8, hcs8⟩ := HS2.out.own; have HCS8 := Lib.hid hcs8; have HOWN8 := Lib.hid (hown8.alloc (obj5 k2 l2 A2 d2.len c2 mn2 mx2)); clear hown8 hcs8)
        | (refine step_append_any _ rfl (.tmp 49) (.tmp 56) 22 rfl (w.heap.size + 3) 24 iP _ 5 64 Tryz.underlying22 hi hz0 hz1 hz2 rfl (by decide) lv p cs8 rfl HOWN8.out (w2.heap.size + 1) (some ⟨w2.heap.size, 0, none⟩) 1 1 [.int .i64 k2, .string l2, .slice A2 d2.len c2, .int .i64 mn2, .int .i64 mx2] rfl (reads5 w2 _ _ _ _ _ _) (csl_one _ _ _ _ _ _ _) (by unfold maxLen; omega) (by omega) (by have := HZ2.out; simp; omega) ?_; intro v8 w8 hown8 hgrow8 hat8; obtain ⟨HS8, HB8, HZ8⟩ := HS2.out.push_all k2 l2 A2 c2 mn2 mx2 d2 HO2.out HCS8.out HZ2.out hown8 hgrow8 hat8; clear hown8 hgrow8 hat8; obtain ⟨A8, c8, hv8, hvc1, hvc2, hvc3⟩ := HS8.out.at HX.out; subst hv8; clear hvc1 hvc2 hvc3; obtain ⟨⟨t0, t1, t2', t3', t4'⟩, j0, j1, j2, j3, j4⟩ := bx_all (HT2.out.at_below HB8.out (by omega))))
      all_goals
        go_wp2_with fail
        exact ⟨⟨p + 1, _, r1, .slice A8 (p + 1) c8, hkk, hqq, by go_num, Lib.hid (by rw [HKK.out, ← HF2.out]; exact HS8.out.set (p := ⟨w.heap.size + 2, 2, none⟩) (by simp) (fun hx => by have := HS8.out.lt _ hx; simp at this <;> omega) _), Lib.hid (((HK.out.below HB2b.out).at_below HB8.out (by omega)).far (p := ⟨w.heap.size + 2, 2, none⟩) (by simp) _), Lib.hid (((HR.out.below HB2b.out).at_below HB8.out (by omega)).far (p := ⟨w.heap.size + 2, 2, none⟩) (by simp) _), Lib.hid ((HT2.out.at_below HB8.out (by omega)).set2 _), Lib.hid ((bt (bt HB.out HB2b.out HB.out.size) HB8.out (by omega)).setCell (p := ⟨w.heap.size + 2, 2, none⟩) (by simp <;> omega) _), Lib.hid (by have := HZ8.out; have := HZ2.out; simp [World.setCell] <;> omega)⟩, by simp [RowKit.intOf] <;> omega⟩
    | nil =>
      have hlt : ¬ (q : Int) < kids.len := by have := hlen.out; simp only [Fo.len] at this; omega
      have hlt2 : decide (q < kids.len) = false := decide_eq_false (by have := hlen.out; simp only [Fo.len] at this; omega)
      have hdk : ordF k kids = dn := by have := hk.out; rw [Fo.app_nil] at this; exact this
      obtain ⟨A8, c8, rfl, hv1, hv2, hv3⟩ := HS.out.at HX.out
      have hql : (tuL dn).len = q := by rw [tuL_len]; exact hq.out
      have HOK := Lib.hid (show Nd.ok wr ((w.heap.size + 2) :: (w.heap.size + 1) :: X) ⟨k, ⟨#[]⟩, A8, c8, 0, 0, tuL dn⟩ from ⟨by rw [hql]; exact hv1, hv2, hv3⟩)
      have HTE := Lib.hid (show Fo.cons k ⟨#[]⟩ (tuL dn) 0 0 .nil = tu1 k l (tuL kids) mn mx by rw [← hdk]; exact HTU.out)
      have HLS := Lib.hid (show ∀ y, y ∈ (w.heap.size + 1) :: X → y ∈ (w.heap.size + 2) :: (w.heap.size + 1) :: X from fun y hy => List.mem_cons_of_mem _ hy)
      have HQL := Lib.hid hql
      clear hv3 hdk hk hq hlen hql
      obtain ⟨⟨z0, z1, z2, z3, z4⟩, t0, t1, t2', t3', t4'⟩ := bx_all (HR.out)
      obtain ⟨⟨p0, p1, p2, p3, p4⟩, o0, o1, o2, o3, o4⟩ := bx_all (HT.out)
      have hbz : w.heap.size + 3 ≤ wr.heap.size := HZ.out
      go_wp2_with fail
      exact bodyPost_ret (v := (⟨k, ⟨#[]⟩, A8, c8, 0, 0, tuL dn⟩ : Nd).v) (by simp [results, Tryz.results53, go_sem, z0, z1, z2, z3, z4, HQL.out]) rfl (made_w5 (w := w) (a := ⟨k, ⟨#[]⟩, A8, c8, 0, 0, tuL dn⟩) (b := w.heap.size + 1) HTE.out (HOK.out.less HLS.out) HB.out (by omega) (.int .i64 k) (.string ⟨#[]⟩) (.slice A8 q c8) (.int .i64 0) (.int .i64 0))
theorem rturn_n (n : Nat) : TuR n := by
  induction n with
  | zero => intro a X w hn; omega
  | succ n ih =>
    intro a X w hn hwd hok hX
    obtain ⟨k, l, A, c, mn, mx, kids⟩ := a
    obtain ⟨hc, hc2, hat⟩ := hok
    by_cases h2 : k = 2
    · subst h2; exact rturn_2 n ih l A c mn mx kids X w hn hwd hc hc2 hat hX
    by_cases h3 : k = 3
    · subst h3; exact rturn_3 n ih l A c mn mx kids X w hn hwd hc hc2 hat hX
    by_cases h4 : k = 4
    · subst h4; exact rturn_4 n ih l A c mn mx kids X w hn hwd hc hc2 hat hX
    by_cases h9 : k = 9
    · subst h9; exact rturn_9 n ih l A c mn mx kids X w hn hwd hc hc2 hat hX
    exact rturn_o n ih k l A c mn mx kids X w hn hwd hc hc2 hat hX h2 h3 h4 h9
set_option maxRecDepth 100000 in
set_option maxHeartbeats 4000000 in
/-- The document's 'Turn' is the program's. -/
theorem rTurn_any (a : Nd) (X : List Nat) (w : World) (h : a.ok w X) (hlb : Lb (a.fo .nil)) (hs : a.kids.sz ≤ 1000000) (hX : ∀ x ∈ X, x < w.heap.size) : Calls Tryz.prog 24 #[a.v] w (MadeP w X (turnR a.k a.l a.kids a.mn a.mx)) := by
  have HK := Lib.hid (fun (w1 : World) (hb : Below w.heap.size w w1) => rMay_any a X w1 (h.below hb) hlb hs)
  have HZ := Lib.hid (show ∀ o1 : Obj, Bx ((w.alloc o1).alloc obj50) (w.heap.size + 1) (.int .i64 0) (.string ⟨#[]⟩) (.slice none 0 0) (.int .i64 0) (.int .i64 0) from fun o1 => by
    have := Bx.new (w.alloc o1) (.int .i64 0) (.string ⟨#[]⟩) (.slice none 0 0) (.int .i64 0) (.int .i64 0) 24
    simpa using this)
  have HY := Lib.hid ((Bx.new w (.int .i64 a.k) (.string a.l) (.slice a.A a.kids.len a.c) (.int .i64 a.mn) (.int .i64 a.mx) 24).al obj50)
  have HB := Lib.hid (show ∀ o1 o2 : Obj, Below w.heap.size w ((w.alloc o1).alloc o2) from fun o1 o2 => ((Below.refl _ w).alloc (by simp) o1).alloc (by simp) o2)
  have HS := Lib.hid (show ∀ o1 o2 : Obj, ((w.alloc o1).alloc o2).heap.size = w.heap.size + 2 from fun o1 o2 => by simp)
  cases h0 : knownB a.k a.l a.kids a.mn a.mx
  · have HE := Lib.hid (show turnR a.k a.l a.kids a.mn a.mx = zerF by unfold turnR; rw [h0]; rfl)
    rw [h0] at HK
    unfold Nd.v at *
    clear h hlb hs hX h0
    go_enter Tryz.func24, Tryz.ntmps24
    go_wp2_with (first
      | (go_at_call 49; (with_reducible refine (HK.out _ (HB.out _ _)).mono ?_); rintro e w1 ⟨rfl, hb1⟩; have HB1 := Lib.hid ((HB.out (obj5 a.k a.l a.A a.kids.len a.c a.mn a.mx) obj50).trans (hb1.mono (by rw [HS.out]; omega))); obtain ⟨⟨r0, r1, r2, r3, r4⟩, s0, s1, s2, s3, s4⟩ := bx_all ((HZ.out (obj5 a.k a.l a.A a.kids.len a.c a.mn a.mx)).below hb1); clear hb1))
    exact bodyPost_ret (v := (⟨0, ⟨#[]⟩, none, 0, 0, 0, .nil⟩ : Nd).v) (by simp [results, Tryz.results24, go_sem, r0, r1, r2, r3, r4, Fo.len]) rfl (by
      rw [HE.out]
      exact made_w5 (a := ⟨0, ⟨#[]⟩, none, 0, 0, 0, .nil⟩) rfl ⟨Nat.le_refl _, Nat.zero_le _, trivial⟩ HB1.out (by omega) _ _ _ _ _)
  · have HE := Lib.hid (show turnR a.k a.l a.kids a.mn a.mx = tu1 a.k a.l (tuL a.kids) a.mn a.mx by unfold turnR; rw [h0]; rfl)
    rw [h0] at HK
    have HP := Lib.hid (fun (w1 : World) (hb : Below w.heap.size w w1) (hz1 : w.heap.size + 2 ≤ w1.heap.size) => rturn_n (a.kids.sz + 1) a ((w.heap.size + 1) :: X) w1 (Nat.lt_succ_self _) (wd_known h0) ((ok_grow h (fun y hy => by
      rcases List.mem_cons.1 hy with rfl | hy
      · exact Or.inr (by omega)
      · exact Or.inl hy)).below hb) (fun x hx => by
      rcases List.mem_cons.1 hx with rfl | hx
      · omega
      · have := hX x hx; omega))
    unfold Nd.v at *
    clear h hlb hs hX h0
    go_enter Tryz.func24, Tryz.ntmps24
    go_wp2_with (first
      | (go_at_call 49; (with_reducible refine (HK.out _ (HB.out _ _)).mono ?_); rintro e w1 ⟨rfl, hb1⟩; have HB1 := Lib.hid ((HB.out (obj5 a.k a.l a.A a.kids.len a.c a.mn a.mx) obj50).trans (hb1.mono (by rw [HS.out]; omega))); have HS1 := Lib.hid (show w.heap.size + 2 ≤ w1.heap.size by have := hb1.size; rw [HS.out] at this; exact this); have HZ1 := Lib.hid ((HZ.out (obj5 a.k a.l a.A a.kids.len a.c a.mn a.mx)).below hb1); obtain ⟨⟨x0, x1, x2, x3, x4⟩, y0, y1, y2, y3, y4⟩ := bx_all (HY.out.below hb1); clear hb1)
      | (go_at_call 53; (with_reducible refine (HP.out _ HB1.out HS1.out).mono ?_); rintro e w2 ⟨⟨k2, l2, A2, c2, mn2, mx2, d2⟩, rfl, hfo2, hok2, hb2⟩; have HF2 := Lib.hid hfo2; have HO2 := Lib.hid hok2; have HB2 := Lib.hid hb2; clear hfo2 hok2 hb2; obtain ⟨⟨r0, r1, r2, r3, r4⟩, s0, s1, s2, s3, s4⟩ := bx_all (HZ1.out.below HB2.out)))
    exact bodyPost_ret (v := (⟨k2, l2, A2, c2, mn2, mx2, d2⟩ : Nd).v) (by simp [results, Tryz.results24, go_sem, r0, r1, r2, r3, r4]) rfl (by
      rw [HE.out]
      exact made_w5 HF2.out HO2.out (bt HB1.out HB2.out HB1.out.size) (by omega) _ _ _ _ _)
end Go.Proofs.YtpaehicfndkliaaGreatDoor.De
