import Derived.Test.YtpaehicfndkliaaGreatDoorQr

/- The walk of 'Read'. Condition: a text of at most a million bytes. -/
namespace Go.Proofs.YtpaehicfndkliaaGreatDoor.Pa
open Go.RowKit Go.Lib Na Go.PN

def textF : Fo → List UInt8
  | .nil => []
  | .cons k l d mn mx _ => textT k l d mn mx
/-- The path that a text begins with, and how many bytes it has there. -/
def readR (l : List UInt8) : Option (Fo × Nat) :=
  match altR NP 80 l with
  | some (p, u) => if textF p = l.take (l.length - u.length) then some (p, l.length - u.length) else none
  | none => none
theorem below_w5 {B : Nat} {a w : World} {b : Nat} {v0 v1 v2 v3 v4 : Value} (h : Below B a w) (hb : B ≤ b) : Below B a (put5 w b v0 v1 v2 v3 v4) :=
  ((((h.setCell (p := ⟨b, 0, none⟩) hb _).setCell (p := ⟨b, 1, none⟩) hb _).setCell (p := ⟨b, 2, none⟩) hb _).setCell (p := ⟨b, 3, none⟩) hb _).setCell (p := ⟨b, 4, none⟩) hb _
abbrev zeroV : Value := .agg #[.int .i64 0, .string ⟨#[]⟩, .slice none 0 0, .int .i64 0, .int .i64 0]
def ReadP (w : World) (X : List Nat) (r : Option (Fo × Nat)) (e : Ending) (w' : World) : Prop :=
  match r with
  | some (p, n) => ∃ a : Nd, e = .returned (.tuple #[a.v, .int .i64 n]) ∧ a.fo .nil = p ∧ a.ok w' X ∧ Below w.heap.size w w'
  | none => e = .returned (.tuple #[zeroV, .int .i64 0]) ∧ Below w.heap.size w w'
abbrev rdW (w : World) (s : ByteArray) : World := ((w.alloc zero5).alloc (.cells #[.string s, .int .i64 0, .int .i64 0] 86)).alloc (.cells #[.pointer (some ⟨w.heap.size + 1, 0, none⟩)] 84)
theorem rdW_facts (w : World) (s : ByteArray) : RS (rdW w s) (w.heap.size + 1) s 0 0 ∧ (rdW w s).cell? ⟨w.heap.size + 2, 0, none⟩ = some (.pointer (some ⟨w.heap.size + 1, 0, none⟩)) ∧
    Bx (rdW w s) w.heap.size (.int .i64 0) (.string ⟨#[]⟩) (.slice none 0 0) (.int .i64 0) (.int .i64 0) ∧ (rdW w s).heap.size = w.heap.size + 3 ∧ Below w.heap.size w (rdW w s) := by
  refine ⟨⟨?_, ?_, ?_, ?_, ?_, ?_⟩, ?_, ?_, ?_, ?_⟩
  · go_simp
  · go_simp
  · go_simp
  · go_simp
  · go_simp
  · go_simp
  · go_simp
  · exact ((Bx.new w (.int .i64 0) (.string ⟨#[]⟩) (.slice none 0 0) (.int .i64 0) (.int .i64 0) 24).al _).al _
  · simp
  · exact (((Below.refl _ _).alloc (Nat.le_refl _) _).alloc (by simp) _).alloc (by simp; omega) _
set_option maxRecDepth 100000 in
set_option maxHeartbeats 8000000 in
theorem read_left (s : ByteArray) (w : World) (hm : s.size ≤ 1000000) (hG : ErG w) (hx : altR NP 80 s.data.toList = none) :
    Calls Tryz.prog 62 #[.string s] w fun e w' => e = .returned (.tuple #[zeroV, .int .i64 0]) ∧ Below w.heap.size w w' := by
  have hmf : ∀ (fn : Fn) (first cap : Array Value) (w : World), (Instr.makeFunc fn first cap).run Tryz.prog w = .ok (.func fn first cap) w := fun _ _ _ _ => rfl
  obtain ⟨hr, hp, hb, hsz, hbl⟩ := rdW_facts w s
  have hcw := catW_size (rdW w s)
  have hkc : Below (rdW w s).heap.size (rdW w s) (catW (rdW w s)) := ((Below.refl _ _).alloc (Nat.le_refl _) _).alloc (by simp) _
  have HC := Lib.hid (catch_left (w.heap.size + 2) w.heap.size (w.heap.size + 1) (rdW w s) (by omega) (read1_left (w.heap.size + 1) (w.heap.size + 2) w.heap.size s (catW (rdW w s)) hm (hr.below hkc) (hG.er (hbl.trans (hkc.mono (by omega))) (by omega)) ((hkc.cell (p := ⟨w.heap.size + 2, 0, none⟩) (by rw [hsz]; show w.heap.size + 2 < _; omega)).trans hp) hx))
  have HB := Lib.hid hb
  have HBL := Lib.hid hbl
  have HSZ := Lib.hid hsz
  have hne : w.heap.size ∉ [w.heap.size + 1] := by simp
  clear hr hp hb hsz hbl hcw hkc hx hG
  go_enter Tryz.func62, Tryz.ntmps62
  go_wp2_with (go_at_call 35; (with_reducible refine (HC.out).mono ?_); rintro e w2 ⟨x, rfl, hk⟩; have HK := Lib.hid hk; have HB2 := Lib.hid (HB.out.kp hk hne); clear hk; have z0 := HB2.out.c0; have z1 := HB2.out.c1; have z2 := HB2.out.c2; have z3 := HB2.out.c3; have z4 := HB2.out.c4; have y0 := HB2.out.f0; have y1 := HB2.out.f1; have y2 := HB2.out.f2; have y3 := HB2.out.f3; have y4 := HB2.out.f4)
  go_quiet (fail)
  go_wp2_with fail
  exact bodyPost_ret (v := .tuple #[zeroV, .int .i64 0]) (by simp [results, Tryz.results62, go_sem, z0, z1, z2, z3, z4]) rfl ⟨rfl, below_w5 ((HBL.out.trans (HK.out.below (by have := HSZ.out; omega) (by simp))).trans (below_drewN _ _ _)) (Nat.le_refl _)⟩
set_option maxRecDepth 100000 in
set_option maxHeartbeats 16000000 in
theorem read_ok (s : ByteArray) (w : World) (hm : s.size ≤ 1000000) (hG : ErG w) (X : List Nat) (hXs : ∀ x ∈ X, x < w.heap.size) {p : Fo} {u : List UInt8} (hx : altR NP 80 s.data.toList = some (p, u)) (r : Option (Fo × Nat)) (hr0 : r = if textF p = s.data.toList.take (s.size - u.length) then some (p, s.size - u.length) else none) :
    Calls Tryz.prog 62 #[.string s] w (ReadP w X r) := by
  have hmf : ∀ (fn : Fn) (first cap : Array Value) (w : World), (Instr.makeFunc fn first cap).run Tryz.prog w = .ok (.func fn first cap) w := fun _ _ _ _ => rfl
  obtain ⟨hr, hp, hb, hsz, hbl⟩ := rdW_facts w s
  have hcw := catW_size (rdW w s)
  have hcc := catW_cells (rdW w s)
  rw [hsz] at hcc hcw
  have hkc : Below (rdW w s).heap.size (rdW w s) (catW (rdW w s)) := ((Below.refl _ _).alloc (Nat.le_refl _) _).alloc (by simp) _
  have hul : u.length ≤ s.size := by
    obtain ⟨q, hq⟩ := (alt_both 80).1 _ _ _ hx
    have := congrArg List.length hq
    rw [List.length_append] at this
    have hz : s.data.toList.length = s.size := by simp
    omega
  have hbd := Lib.hid ((alt_both 80).2 _ _ _ hx)
  have HC := Lib.hid (catch_ok (w.heap.size + 2) w.heap.size (w.heap.size + 1) (rdW w s) (fun w' => ∃ a, Got (catW (rdW w s)) w' (w.heap.size + 1) (w.heap.size + 2) w.heap.size ((w.heap.size + 3) :: (w.heap.size + 4) :: (w.heap.size + 1) :: X) s p u a) (by omega)
    ((read1_ok (w.heap.size + 1) (w.heap.size + 2) w.heap.size s (catW (rdW w s)) hm (hr.below hkc) (hG.er (hbl.trans (hkc.mono (by omega))) (by omega)) ((hkc.cell (p := ⟨w.heap.size + 2, 0, none⟩) (by rw [hsz]; show w.heap.size + 2 < _; omega)).trans hp)
      ((w.heap.size + 3) :: (w.heap.size + 4) :: (w.heap.size + 1) :: X) (by simp) (fun x hx => by
        simp only [List.mem_cons] at hx
        rcases hx with rfl | rfl | rfl | hx
        · omega
        · omega
        · omega
        · have := hXs x hx; omega) (hb.below hkc) (by omega) (by omega) (by omega) hx).mono fun e w' ⟨he, a, hg⟩ => ⟨he, ⟨a, hg⟩, by
          rw [hsz]
          refine ⟨(hg.kp.cell (p := ⟨w.heap.size + 3, 0, none⟩) (by rw [hcw]; show w.heap.size + 3 < _; omega) (by simp <;> omega)).trans hcc.1, (hg.kp.cell (p := ⟨w.heap.size + 3 + 1, 0, none⟩) (by rw [hcw]; show w.heap.size + 3 + 1 < _; omega) (by simp <;> omega)).trans hcc.2.1, (hg.kp.frozen (p := ⟨w.heap.size + 3, 0, none⟩) (by rw [hcw]; show w.heap.size + 3 < _; omega) (by simp <;> omega)).trans hcc.2.2.1, (hg.kp.frozen (p := ⟨w.heap.size + 3 + 1, 0, none⟩) (by rw [hcw]; show w.heap.size + 3 + 1 < _; omega) (by simp <;> omega)).trans hcc.2.2.2⟩⟩))
  rw [hsz] at HC
  have HBL := Lib.hid (hbl.trans (hkc.mono (by omega : w.heap.size ≤ (rdW w s).heap.size)))
  have HSZ := Lib.hid hsz
  obtain ⟨n, hn⟩ : ∃ n, s.size - u.length = n := ⟨_, rfl⟩
  have hpos : pos s u = (n : Int) := by unfold pos; rw [hn]
  rw [hn] at hr0
  have HRES := Lib.hid hr0
  clear hr0
  have hns : n ≤ s.size := by omega
  have hn0 : (0 : Int) ≤ (n : Int) := by omega
  have hn1 : (n : Int) ≤ (s.size : Int) := by omega
  have HPOS := Lib.hid hpos
  have HXS := Lib.hid hXs
  have HCW := Lib.hid hcw
  clear hr hp hb hsz hbl hcw hkc hx hG hcc hn hpos hXs
  go_enter Tryz.func62, Tryz.ntmps62
  go_wp2_with (go_at_call 35; (with_reducible refine (HC.out).mono ?_); rintro e w9 ⟨rfl, w2, ⟨⟨k, l, A, c, mn, mx, kids⟩, hg⟩, hw9⟩; have hzl := hg.bx.lt; have hfo := Lib.hid hg.fo; have HB9 := Lib.hid (show Bx w9 w.heap.size (.int .i64 k) (.string l) (.slice A kids.len c) (.int .i64 mn) (.int .i64 mx) from by rw [hw9]; exact (hg.bx.far (p := ⟨w.heap.size + 3, 0, none⟩) (by simp) (.int .i64 0)).far (p := ⟨w.heap.size + 3 + 1, 0, none⟩) (by simp <;> omega) (.int .i64 0)); have HO9 := Lib.hid (show Nd.ok w9 (w.heap.size :: (w.heap.size + 3) :: (w.heap.size + 4) :: (w.heap.size + 1) :: X) ⟨k, l, A, c, mn, mx, kids⟩ from by rw [hw9]; exact (hg.ok.set (p := ⟨w.heap.size + 3, 0, none⟩) (by simp) (.int .i64 0)).set (p := ⟨w.heap.size + 3 + 1, 0, none⟩) (by simp) (.int .i64 0)); have HR9 := Lib.hid (show RS w9 (w.heap.size + 1) s (n : Int) 0 from by rw [hw9]; exact HPOS.out ▸ ((hg.rs.far (p := ⟨w.heap.size + 3, 0, none⟩) (by simp) (.int .i64 0)).far (p := ⟨w.heap.size + 3 + 1, 0, none⟩) (by simp <;> omega) (.int .i64 0))); have HP9 := Lib.hid (show w9.cell? ⟨w.heap.size + 2, 0, none⟩ = some (.pointer (some ⟨w.heap.size + 1, 0, none⟩)) from by rw [hw9]; exact (World.cell?_of_block (Below.heap_setCell _ _ _ _ (by simp))).trans ((World.cell?_of_block (Below.heap_setCell _ _ _ _ (by simp))).trans hg.pt)); have HBL9 := Lib.hid (show Below w.heap.size w w9 from by rw [hw9]; exact ((HBL.out.trans (hg.kp.below (by have := HCW.out; omega) (by simp))).setCell (p := ⟨w.heap.size + 3, 0, none⟩) (by simp) _).setCell (p := ⟨w.heap.size + 3 + 1, 0, none⟩) (by simp <;> omega) _); clear hw9 hg hzl)
  have HT := Lib.hid (fun (w1 : World) (hb : Below w9.heap.size w9 w1) => Text_any ⟨k, l, A, c, mn, mx, kids⟩ _ w1 (HO9.out.below hb) (by rw [hfo.out]; exact hbd.out))
  have HTF := Lib.hid (show textF p = textT k l kids mn mx by rw [← hfo.out]; rfl)
  unfold Nd.v at HT
  simp only at HT
  generalize textT k l kids mn mx = T at *
  have z0 := HB9.out.c0
  have z1 := HB9.out.c1
  have z2 := HB9.out.c2
  have z3 := HB9.out.c3
  have z4 := HB9.out.c4
  have r1 := HR9.out.c1
  have p0 := HP9.out
  by_cases hT : T = s.data.toList.take n
  · have tX : (T == (s.extract 0 n).toList) = true := by
      rw [ByteArray.toList_eq, ext_take, hT]; exact beq_self_eq_true _
    have HP := Lib.hid (show textF p = s.data.toList.take n by rw [HTF.out, hT])
    clear hT
    go_region_held3 (fun w' => w'.cell? ⟨w.heap.size, 0, none⟩ = some (.int .i64 k) ∧ w'.cell? ⟨w.heap.size, 1, none⟩ = some (.string l) ∧ w'.cell? ⟨w.heap.size, 2, none⟩ = some (.slice A kids.len c) ∧ w'.cell? ⟨w.heap.size, 3, none⟩ = some (.int .i64 mn) ∧ w'.cell? ⟨w.heap.size, 4, none⟩ = some (.int .i64 mx) ∧ w'.cell? ⟨w.heap.size + 1 + 1, 0, none⟩ = some (.pointer (some ⟨w.heap.size + 1, 0, none⟩)) ∧ w'.cell? ⟨w.heap.size + 1, 1, none⟩ = some (.int .i64 (n : Int))) (first | exact ⟨z0, z1, z2, z3, z4, p0, r1⟩ | exact F1.out) (first | (go_at_call 89; (with_reducible refine (HT.out _ (Below.refl _ _).drew).mono ?_); rintro e w3 ⟨rfl, hb3⟩; have HB3 := Lib.hid ((Below.refl w9.heap.size w9).drew.trans (hb3.mono (Below.refl w9.heap.size w9).drew.size)); have F1 := Lib.hid (show w3.cell? ⟨w.heap.size, 0, none⟩ = some (.int .i64 k) ∧ w3.cell? ⟨w.heap.size, 1, none⟩ = some (.string l) ∧ w3.cell? ⟨w.heap.size, 2, none⟩ = some (.slice A kids.len c) ∧ w3.cell? ⟨w.heap.size, 3, none⟩ = some (.int .i64 mn) ∧ w3.cell? ⟨w.heap.size, 4, none⟩ = some (.int .i64 mx) ∧ w3.cell? ⟨w.heap.size + 1 + 1, 0, none⟩ = some (.pointer (some ⟨w.heap.size + 1, 0, none⟩)) ∧ w3.cell? ⟨w.heap.size + 1, 1, none⟩ = some (.int .i64 (n : Int)) from ⟨(HB9.out.below HB3.out).c0, (HB9.out.below HB3.out).c1, (HB9.out.below HB3.out).c2, (HB9.out.below HB3.out).c3, (HB9.out.below HB3.out).c4, (HB3.out.cell (cell_lt p0)).trans p0, (HR9.out.below HB3.out).c1⟩); clear hb3))
    all_goals
      have m0 := (HB9.out.below HB3.out).c0
      have y0 := (HB9.out.below HB3.out).f0
      have m1 := (HB9.out.below HB3.out).c1
      have y1 := (HB9.out.below HB3.out).f1
      have m2 := (HB9.out.below HB3.out).c2
      have y2 := (HB9.out.below HB3.out).f2
      have m3 := (HB9.out.below HB3.out).c3
      have y3 := (HB9.out.below HB3.out).f3
      have m4 := (HB9.out.below HB3.out).c4
      have y4 := (HB9.out.below HB3.out).f4
      have p3 := (HB3.out.cell (cell_lt p0)).trans p0
      have r3 := (HR9.out.below HB3.out).c1
      clear z0 z1 z2 z3 z4 r1 p0
      go_wp2_with fail
      go_region
      all_goals
        go_wp2_with fail
        exact bodyPost_ret (v := .tuple #[.agg #[.int .i64 k, .string l, .slice A kids.len c, .int .i64 mn, .int .i64 mx], .int .i64 n]) (by simp [results, Tryz.results62, go_sem, m0, m1, m2, m3, m4]) rfl (by rw [HRES.out, if_pos HP.out]; exact ⟨⟨k, l, A, c, mn, mx, kids⟩, rfl, hfo.out, (((HO9.out.below HB3.out).w5 (b := w.heap.size) (by simp)).below (Below.refl _ _).drew).less (by intro y hy; simp [hy]), (below_w5 (HBL9.out.trans (HB3.out.mono HBL9.out.size)) (Nat.le_refl _)).drew⟩)
  · have tX : (T == (s.extract 0 n).toList) = false := by
      rw [ByteArray.toList_eq, ext_take, beq_eq_false_iff_ne]; intro e; exact hT (by simpa using e)
    have HP := Lib.hid (show ¬ textF p = s.data.toList.take n by rw [HTF.out]; exact hT)
    clear hT
    go_region_held3 (fun w' => w'.cell? ⟨w.heap.size, 0, none⟩ = some (.int .i64 k) ∧ w'.cell? ⟨w.heap.size, 1, none⟩ = some (.string l) ∧ w'.cell? ⟨w.heap.size, 2, none⟩ = some (.slice A kids.len c) ∧ w'.cell? ⟨w.heap.size, 3, none⟩ = some (.int .i64 mn) ∧ w'.cell? ⟨w.heap.size, 4, none⟩ = some (.int .i64 mx) ∧ w'.cell? ⟨w.heap.size + 1 + 1, 0, none⟩ = some (.pointer (some ⟨w.heap.size + 1, 0, none⟩)) ∧ w'.cell? ⟨w.heap.size + 1, 1, none⟩ = some (.int .i64 (n : Int))) (first | exact ⟨z0, z1, z2, z3, z4, p0, r1⟩ | exact F1.out) (first | (go_at_call 89; (with_reducible refine (HT.out _ (Below.refl _ _).drew).mono ?_); rintro e w3 ⟨rfl, hb3⟩; have HB3 := Lib.hid ((Below.refl w9.heap.size w9).drew.trans (hb3.mono (Below.refl w9.heap.size w9).drew.size)); have F1 := Lib.hid (show w3.cell? ⟨w.heap.size, 0, none⟩ = some (.int .i64 k) ∧ w3.cell? ⟨w.heap.size, 1, none⟩ = some (.string l) ∧ w3.cell? ⟨w.heap.size, 2, none⟩ = some (.slice A kids.len c) ∧ w3.cell? ⟨w.heap.size, 3, none⟩ = some (.int .i64 mn) ∧ w3.cell? ⟨w.heap.size, 4, none⟩ = some (.int .i64 mx) ∧ w3.cell? ⟨w.heap.size + 1 + 1, 0, none⟩ = some (.pointer (some ⟨w.heap.size + 1, 0, none⟩)) ∧ w3.cell? ⟨w.heap.size + 1, 1, none⟩ = some (.int .i64 (n : Int)) from ⟨(HB9.out.below HB3.out).c0, (HB9.out.below HB3.out).c1, (HB9.out.below HB3.out).c2, (HB9.out.below HB3.out).c3, (HB9.out.below HB3.out).c4, (HB3.out.cell (cell_lt p0)).trans p0, (HR9.out.below HB3.out).c1⟩); clear hb3))
    all_goals
      have m0 := (HB9.out.below HB3.out).c0
      have y0 := (HB9.out.below HB3.out).f0
      have m1 := (HB9.out.below HB3.out).c1
      have y1 := (HB9.out.below HB3.out).f1
      have m2 := (HB9.out.below HB3.out).c2
      have y2 := (HB9.out.below HB3.out).f2
      have m3 := (HB9.out.below HB3.out).c3
      have y3 := (HB9.out.below HB3.out).f3
      have m4 := (HB9.out.below HB3.out).c4
      have y4 := (HB9.out.below HB3.out).f4
      go_wp2_with fail
      exact bodyPost_ret (v := .tuple #[zeroV, .int .i64 0]) (by simp [results, Tryz.results62, go_sem, m0, m1, m2, m3, m4]) rfl (by rw [HRES.out, if_neg HP.out]; exact ⟨rfl, below_w5 (HBL9.out.trans (HB3.out.mono HBL9.out.size)) (Nat.le_refl _)⟩)
end Go.Proofs.YtpaehicfndkliaaGreatDoor.Pa


/- The walks of 'Read', 'Parse'. Condition: of 'Read', a text of at most a million bytes; the library's two errors can be read. -/
namespace Go.Proofs.YtpaehicfndkliaaGreatDoor.Pa
open Go.RowKit Go.Lib Na Go.PN

theorem read_any (s : ByteArray) (w : World) (hm : s.size ≤ 1000000) (hG : ErG w) (X : List Nat) (hXs : ∀ x ∈ X, x < w.heap.size) : Calls Tryz.prog 62 #[.string s] w (ReadP w X (readR s.data.toList)) := by
  have hz : s.data.toList.length = s.size := by simp
  rcases hx : altR NP 80 s.data.toList with _ | ⟨p, u⟩
  · have e : readR s.data.toList = none := by unfold readR; rw [hx]
    rw [e]
    exact read_left s w hm hG hx
  · have e : readR s.data.toList = if textF p = s.data.toList.take (s.size - u.length) then some (p, s.size - u.length) else none := by
      unfold readR; rw [hx, hz]
    exact read_ok s w hm hG X hXs hx _ e
abbrev zeroF : Fo := .cons 0 ⟨#[]⟩ .nil 0 0 .nil
/-- The path whose text it is; else why there is none. -/
def parseR (l : List UInt8) : Fo × Int :=
  if 4000 < l.length then (zeroF, 5)
  else match readR l with
    | some (p, n) => if n = 0 ∨ n < l.length then (zeroF, 3) else (p, 0)
    | none => (zeroF, 3)
def ParseP (w : World) (X : List Nat) (r : Fo × Int) (e : Ending) (w' : World) : Prop :=
  ∃ a : Nd, e = .returned (.tuple #[a.v, .int .i64 r.2]) ∧ a.fo .nil = r.1 ∧ a.ok w' X ∧ Below w.heap.size w w'
theorem zero_ok (w : World) (X : List Nat) : Nd.ok w X ⟨0, ⟨#[]⟩, none, 0, 0, 0, .nil⟩ := ⟨Nat.le_refl _, by simp, trivial⟩
set_option maxRecDepth 100000 in
set_option maxHeartbeats 8000000 in
theorem parse_any (s : ByteArray) (w : World) (hG : ErG w) (X : List Nat) (hXs : ∀ x ∈ X, x < w.heap.size) : Calls Tryz.prog 32 #[.string s] w (ParseP w X (parseR s.data.toList)) := by
  have hz : s.data.toList.length = s.size := by simp
  obtain ⟨r, hr⟩ : ∃ r, parseR s.data.toList = r := ⟨_, rfl⟩
  rw [hr]
  have HB1 := Lib.hid (Bx.new w (.int .i64 0) (.string ⟨#[]⟩) (.slice none 0 0) (.int .i64 0) (.int .i64 0) 24)
  have HW1 := Lib.hid ((Below.refl w.heap.size w).alloc (Nat.le_refl _) zero5)
  by_cases h4 : 4000 < s.size
  · have HR := Lib.hid (show r = (zeroF, 5) by rw [← hr]; unfold parseR; rw [hz, if_pos h4])
    have t4 : decide ((s.size : Int) > 4000) = true := decide_eq_true (by omega)
    clear hr hz hG hXs
    go_enter Tryz.func32, Tryz.ntmps32
    go_wp2_with fail
    exact bodyPost_ret (v := .tuple #[zeroV, .int .i64 5]) (by simp [results, Tryz.results32, go_sem]) rfl (by rw [HR.out]; exact ⟨⟨0, ⟨#[]⟩, none, 0, 0, 0, .nil⟩, rfl, rfl, zero_ok _ _, HW1.out⟩)
  · have t4 : decide ((s.size : Int) > 4000) = false := decide_eq_false (by omega)
    have HC := Lib.hid (fun (w1 : World) (hb : Below w.heap.size w w1) (hl : w.heap.size < w1.heap.size) => read_any s w1 (by omega) (hG.below hb) (w.heap.size :: X) (fun x hx => by
      rcases List.mem_cons.1 hx with rfl | hx
      · exact hl
      · have := hXs x hx; omega))
    have HL := Lib.hid HB1.out.lt
    rcases hx : readR s.data.toList with _ | ⟨p, n⟩
    · have HR := Lib.hid (show r = (zeroF, 3) by rw [← hr]; unfold parseR; rw [hz, if_neg h4, hx])
      rw [hx] at HC
      have HC2 : Hid (∀ w1 : World, Below w.heap.size w w1 → w.heap.size < w1.heap.size → Calls Tryz.prog 62 #[.string s] w1 fun e w' => e = .returned (.tuple #[.agg #[.int .i64 0, .string ⟨#[]⟩, .slice none 0 0, .int .i64 0, .int .i64 0], .int .i64 0]) ∧ Below w1.heap.size w1 w') := HC.out
      clear hr hz hG hXs hx HC
      go_enter Tryz.func32, Tryz.ntmps32
      go_wp2_with (go_at_call 62; (with_reducible refine (HC2.out _ HW1.out HL.out).mono ?_); rintro e w2 ⟨rfl, hb2⟩; have HB2 := Lib.hid ((HB1.out.below hb2).al zero5); have HW2 := Lib.hid ((HW1.out.trans (hb2.mono HW1.out.size)).alloc (Nat.le_trans HW1.out.size hb2.size) zero5); clear hb2; have z0 := HB2.out.c0; have z1 := HB2.out.c1; have z2 := HB2.out.c2; have z3 := HB2.out.c3; have z4 := HB2.out.c4; have y0 := HB2.out.f0; have y1 := HB2.out.f1; have y2 := HB2.out.f2; have y3 := HB2.out.f3; have y4 := HB2.out.f4)
      exact bodyPost_ret (v := .tuple #[zeroV, .int .i64 3]) (by simp [results, Tryz.results32, go_sem, z0, z1, z2, z3, z4]) rfl (by rw [HR.out]; exact ⟨⟨0, ⟨#[]⟩, none, 0, 0, 0, .nil⟩, rfl, rfl, zero_ok _ _, below_w5 HW2.out (Nat.le_refl _)⟩)
    · rw [hx] at HC
      have HC2 : Hid (∀ w1 : World, Below w.heap.size w w1 → w.heap.size < w1.heap.size → Calls Tryz.prog 62 #[.string s] w1 fun e w' => ∃ (k : Int) (l : ByteArray) (A : Option Addr) (c : Nat) (mn mx : Int) (kids : Fo), e = .returned (.tuple #[.agg #[.int .i64 k, .string l, .slice A kids.len c, .int .i64 mn, .int .i64 mx], .int .i64 n]) ∧ Fo.cons k l kids mn mx .nil = p ∧ Nd.ok w' (w.heap.size :: X) ⟨k, l, A, c, mn, mx, kids⟩ ∧ Below w1.heap.size w1 w') := fun w1 h1 h2 => (HC.out w1 h1 h2).mono fun e w' ⟨⟨k, l, A, c, mn, mx, kids⟩, h3, h4, h5, h6⟩ => ⟨k, l, A, c, mn, mx, kids, h3, h4, h5, h6⟩
      by_cases hn0 : n = 0
      · have HR := Lib.hid (show r = (zeroF, 3) by rw [← hr]; unfold parseR; rw [hz, if_neg h4, hx]; simp only; rw [if_pos (Or.inl hn0)])
        subst hn0
        clear hr hz hG hXs hx HC
        go_enter Tryz.func32, Tryz.ntmps32
        go_wp2_with (go_at_call 62; (with_reducible refine (HC2.out _ HW1.out HL.out).mono ?_); rintro e w2 ⟨k, l, A, c, mn, mx, kids, rfl, hfo, hok, hb2⟩; have HF := Lib.hid hfo; have HO2 := Lib.hid (hok.al (cells5 k l A kids.len c mn mx)); have HB2 := Lib.hid ((HB1.out.below hb2).al (cells5 k l A kids.len c mn mx)); have HW2 := Lib.hid ((HW1.out.trans (hb2.mono HW1.out.size)).alloc (Nat.le_trans HW1.out.size hb2.size) (cells5 k l A kids.len c mn mx)); clear hb2 hok hfo; have z0 := HB2.out.c0; have y0 := HB2.out.f0; have z1 := HB2.out.c1; have y1 := HB2.out.f1; have z2 := HB2.out.c2; have y2 := HB2.out.f2; have z3 := HB2.out.c3; have y3 := HB2.out.f3; have z4 := HB2.out.c4; have y4 := HB2.out.f4)
        exact bodyPost_ret (v := .tuple #[zeroV, .int .i64 3]) (by simp [results, Tryz.results32, go_sem, z0, z1, z2, z3, z4]) rfl (by rw [HR.out]; exact ⟨⟨0, ⟨#[]⟩, none, 0, 0, 0, .nil⟩, rfl, rfl, zero_ok _ _, below_w5 HW2.out (Nat.le_refl _)⟩)
      · have tn : ((n : Int) == 0) = false := by rw [beq_eq_false_iff_ne]; omega
        by_cases hn1 : n < s.size
        · have HR := Lib.hid (show r = (zeroF, 3) by rw [← hr]; unfold parseR; rw [hz, if_neg h4, hx]; simp only; rw [if_pos (Or.inr hn1)])
          have tl : decide (n < s.size) = true := decide_eq_true hn1
          clear hr hz hG hXs hx HC
          go_enter Tryz.func32, Tryz.ntmps32
          go_wp2_with (go_at_call 62; (with_reducible refine (HC2.out _ HW1.out HL.out).mono ?_); rintro e w2 ⟨k, l, A, c, mn, mx, kids, rfl, hfo, hok, hb2⟩; have HF := Lib.hid hfo; have HO2 := Lib.hid (hok.al (cells5 k l A kids.len c mn mx)); have HB2 := Lib.hid ((HB1.out.below hb2).al (cells5 k l A kids.len c mn mx)); have HW2 := Lib.hid ((HW1.out.trans (hb2.mono HW1.out.size)).alloc (Nat.le_trans HW1.out.size hb2.size) (cells5 k l A kids.len c mn mx)); clear hb2 hok hfo; have z0 := HB2.out.c0; have y0 := HB2.out.f0; have z1 := HB2.out.c1; have y1 := HB2.out.f1; have z2 := HB2.out.c2; have y2 := HB2.out.f2; have z3 := HB2.out.c3; have y3 := HB2.out.f3; have z4 := HB2.out.c4; have y4 := HB2.out.f4)
          exact bodyPost_ret (v := .tuple #[zeroV, .int .i64 3]) (by simp [results, Tryz.results32, go_sem, z0, z1, z2, z3, z4]) rfl (by rw [HR.out]; exact ⟨⟨0, ⟨#[]⟩, none, 0, 0, 0, .nil⟩, rfl, rfl, zero_ok _ _, below_w5 HW2.out (Nat.le_refl _)⟩)
        · have HR := Lib.hid (show r = (p, 0) by rw [← hr]; unfold parseR; rw [hz, if_neg h4, hx]; simp only; rw [if_neg (by omega)])
          have tl : decide (n < s.size) = false := decide_eq_false hn1
          clear hr hz hG hXs hx HC
          go_enter Tryz.func32, Tryz.ntmps32
          go_wp2_with (go_at_call 62; (with_reducible refine (HC2.out _ HW1.out HL.out).mono ?_); rintro e w2 ⟨k, l, A, c, mn, mx, kids, rfl, hfo, hok, hb2⟩; have HF := Lib.hid hfo; have HO2 := Lib.hid (hok.al (cells5 k l A kids.len c mn mx)); have HB2 := Lib.hid ((HB1.out.below hb2).al (cells5 k l A kids.len c mn mx)); have HW2 := Lib.hid ((HW1.out.trans (hb2.mono HW1.out.size)).alloc (Nat.le_trans HW1.out.size hb2.size) (cells5 k l A kids.len c mn mx)); clear hb2 hok hfo; have z0 := HB2.out.c0; have y0 := HB2.out.f0; have z1 := HB2.out.c1; have y1 := HB2.out.f1; have z2 := HB2.out.c2; have y2 := HB2.out.f2; have z3 := HB2.out.c3; have y3 := HB2.out.f3; have z4 := HB2.out.c4; have y4 := HB2.out.f4)
          exact bodyPost_ret (v := .tuple #[.agg #[.int .i64 k, .string l, .slice A kids.len c, .int .i64 mn, .int .i64 mx], .int .i64 0]) (by simp [results, Tryz.results32, go_sem, z0, z1, z2, z3, z4]) rfl (by rw [HR.out]; exact ⟨⟨k, l, A, c, mn, mx, kids⟩, rfl, HF.out, (HO2.out.w5 (b := w.heap.size) (by simp)).less (by intro y hy; simp [hy]), below_w5 HW2.out (Nat.le_refl _)⟩)
end Go.Proofs.YtpaehicfndkliaaGreatDoor.Pa
