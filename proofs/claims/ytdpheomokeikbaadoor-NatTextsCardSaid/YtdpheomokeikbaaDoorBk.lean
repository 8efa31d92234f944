/- The walks of the law NatBack. Conditions: the digits and the bytes can be read; the table of powers is laid. -/
import Derived.Test.YtdpheomokeikbaaDoorPb
import Derived.Test.YtdpheomokeikbaaDoorUb
namespace Go.Proofs.YtdpheomokeikbaaDoor
open Go.RowKit Go.NT Go.Lib

theorem may_norm {b : Bool} {n : Nat} {rs : List Int} {v : Int} (hl : rs.length = n) (h : mean b rs = some v) (hn : Norm rs) : (if b then ((n : Int) == 0) else (((strip rs).length : Int) == (n : Int))) = true := by
  cases b
  · rw [if_neg (by decide), show strip rs = rs from hn, hl]; simp
  · cases h
theorem norm_may {n : Nat} {xs : List Int} (hl : xs.length = n) (h : (if false then ((n : Int) == 0) else (((strip xs).length : Int) == (n : Int))) = true) : Norm xs := by
  rw [if_neg (by decide)] at h
  have h2 : (strip xs).length = n := by
    have : ((strip xs).length : Int) = (n : Int) := by simpa using h
    omega
  have := (strip_take xs).1
  show strip xs = xs
  rw [this, List.take_of_length_le (by omega)]
theorem flat_len (xs : List Int) : (xs.flatMap le4).length = 4 * xs.length := by
  induction xs with
  | nil => rfl
  | cons x t ih => rw [List.flatMap_cons, List.length_append, ih]; simp [le4]; omega
theorem getD_app_l (l m : List Int) (k : Nat) (h : k < l.length) : (l ++ m).getD k 0 = l.getD k 0 := by
  rw [List.getD_eq_getElem?_getD, List.getElem?_append_left h, ← List.getD_eq_getElem?_getD]
theorem getD_app_r (l m : List Int) (k : Nat) (h : l.length ≤ k) : (l ++ m).getD k 0 = m.getD (k - l.length) 0 := by
  rw [List.getD_eq_getElem?_getD, List.getElem?_append_right h, ← List.getD_eq_getElem?_getD]
theorem flat_get (xs : List Int) (k j : Nat) (hk : k < xs.length) (hj : j < 4) : (xs.flatMap le4).getD (4 * k + j) 0 = (le4 (xs.getD k 0)).getD j 0 := by
  induction xs generalizing k with
  | nil => simp at hk
  | cons x t ih =>
    rw [List.flatMap_cons]
    cases k with
    | zero =>
      rw [getD_app_l _ _ _ (by simp [le4]; omega)]
      simp
    | succ k =>
      rw [getD_app_r _ _ _ (by simp [le4]; omega)]
      have e : 4 * (k + 1) + j - (le4 x).length = 4 * k + j := by simp [le4]; omega
      rw [e, ih k (by simpa using hk)]
      simp
theorem byte_get (n : Nat) (xs hs : List Int) (hl : xs.length = n) (k : Nat) (hk : k < n) (j : Nat) (hj : j < 4) : ((byteL n xs) ++ hs).getD (1 + 4 * k + j) 0 = (le4 (xs.getD k 0)).getD j 0 := by
  unfold byteL
  rw [List.cons_append, show 1 + 4 * k + j = (4 * k + j) + 1 by omega, List.getD_cons_succ, getD_app_l _ _ _ (by rw [flat_len]; omega)]
  exact flat_get xs k j (by omega) hj
theorem may_tis (A : Option Addr) (n c : Nat) (xs : List Int) (w : World) (h : NV w A n c xs) {t : Bool} (hM : Hid (((n : Int) == 0) = t)) :
    Calls Tryd.prog 22 #[.agg #[.bool true, .slice A n c]] w fun e w' => e = .returned (.bool t) ∧ Below w.heap.size w w' := may_is true A n c xs w h hM
theorem bytes_tnot (A : Option Addr) (n c : Nat) (xs : List Int) (w : World) (h : NV w A n c xs) (hM : Hid (((n : Int) == 0) = false)) :
    Calls Tryd.prog 28 #[.agg #[.bool true, .slice A n c]] w fun e w' => e = .returned (.tuple #[.slice none 0 0, .int .i64 16]) ∧ Below w.heap.size w w' := bytes_not true A n c xs w h hM
theorem bytes_tinf (A : Option Addr) (n c : Nat) (xs : List Int) (w : World) (h : NV w A n c xs) (hM : Hid (((n : Int) == 0) = true)) :
    Calls Tryd.prog 28 #[.agg #[.bool true, .slice A n c]] w fun e w' => ∃ g, e = .returned (.tuple #[.slice (some ⟨g, 0, none⟩) 1 1, .int .i64 0]) ∧ Reads w' w'.heap.size 1 (some ⟨g, 0, none⟩) 1 ([255].map (Value.int .u8)) ∧ Below w.heap.size w w' := bytes_inf A n c xs w h hM
theorem may_top (w : World) : Calls Tryd.prog 22 #[.agg #[.bool true, .slice none 0 0]] w fun e w' => e = .returned (.bool true) ∧ Below w.heap.size w w' := may_any true none 0 0 [] w (NV.nil w)
set_option maxRecDepth 100000 in
set_option maxHeartbeats 2000000 in
theorem back_big (w : World) (ht : Tab w) (b : Bool) (A Ab : Option Addr) (n c Lb cb : Nat) (hn : n ≤ 9223372036854775807) (hL : Lb ≤ 9223372036854775807) (h : ¬ (n ≤ 64 ∧ Lb ≤ 300)) :
    Calls Tryd.prog 9 #[.agg #[.bool b, .slice A n c], .slice Ab Lb cb] w fun e w' => e = .returned (.bool true) ∧ Below w.heap.size w w' := by
  have hb1 : ∀ o, Below w.heap.size w (w.alloc o) := fun o => below_al (Below.refl _ _) o
  by_cases hn64 : n ≤ 64
  · have g1 : ¬ (64 : Int) < (n : Int) := by omega
    have g2 : (300 : Int) < (Lb : Int) := by omega
    go_enter Tryd.func9, Tryd.ntmps9
    go_wp2_with (go_at_call 11; (with_reducible refine (awake_any _ (ht.below (hb1 _))).mono ?_); rintro e w2 ⟨rfl, hb2⟩)
    go_ret
    exact ⟨rfl, below_go (hb1 _) hb2⟩
  · have g1 : (64 : Int) < (n : Int) := by omega
    go_enter Tryd.func9, Tryd.ntmps9
    go_wp2_with (go_at_call 11; (with_reducible refine (awake_any _ (ht.below (hb1 _))).mono ?_); rintro e w2 ⟨rfl, hb2⟩)
    go_ret
    exact ⟨rfl, below_go (hb1 _) hb2⟩
theorem G.al {w0 w : World} (h : G w0 w) (o : Obj) : G w0 (w.alloc o) := h.go (below_al (Below.refl _ _) o)
set_option maxRecDepth 100000 in
set_option maxHeartbeats 8000000 in
theorem back_fnot (w : World) (ht : Tab w) (A Ab : Option Addr) (n c Lb cb : Nat) (xs hs : List Int) (hx : NV w A n c xs) (_rb : Reads w w.heap.size 1 Ab Lb (hs.map (Value.int .u8))) (hn : n ≤ 64) (hL : Lb ≤ 300) (v : Int) (hm : Hid (mean false xs = some v)) (S S2 T T2 : ByteArray) (hS : Hid (strV (textM (some v)) = .string S)) (hS2 : (⟨#[48]⟩ : ByteArray) ++ S = S2) (h7 : ¬ 700 < S.size) (h72 : ¬ 700 < S2.size) (hinf : (S.toList == [105, 110, 102]) = false) (hinf2 : (S2.toList == [105, 110, 102]) = false) (HD : Hid (∀ d ∈ S.data.toList, dig d)) (HD2 : Hid (∀ d ∈ S2.data.toList, dig d)) (hT : Hid (T = bs (decI (dval S.data.toList)))) (hT2 : Hid (T2 = bs (decI (dval S2.data.toList)))) (hTS : (T.toList == S.toList) = true) (hTS2 : (T2.toList == S2.toList) = false) (hdv : Hid (dval S.data.toList = v)) (hM : Hid ((if false then ((n : Int) == 0) else (((strip xs).length : Int) == (n : Int))) = false)) :
    Calls Tryd.prog 9 #[.agg #[.bool false, .slice A n c], .slice Ab Lb cb] w fun e w' => e = .returned (.bool true) ∧ Below w.heap.size w w' := by
  have hb0 := below_al (Below.refl w.heap.size w) (Obj.cells #[.bool false, .slice A n c] 24)
  have hG : G w (w.alloc (Obj.cells #[.bool false, .slice A n c] 24)) := ⟨hb0, ht.below hb0⟩
  have ka := Box.made hx false
  have g1 : ¬ (64 : Int) < (n : Int) := by omega
  have g2 : ¬ (300 : Int) < (Lb : Int) := by omega
  have pka := ka.1
  have qka := ka.2.1
  skip
  go_enter Tryd.func9, Tryd.ntmps9
  go_wp2_with (first
    | (go_at_call 26; (with_reducible refine (text_is false A n c xs _ ka.nv (by omega) hG.tab hm hS).mono ?_); rintro e w1 ⟨rfl, hb1⟩; have hG := G.go hG hb1; have ka := ka.go hb1)
    | (go_at_call 25; (with_reducible refine (parse_dig S _ hG.tab h7 hinf HD.out true T hT hTS).mono ?_); rintro e w2 ⟨bx, Ax, nx, cx, rx, rfl, hvx, hmx, hrx, hix, hnx, hb2⟩; have hXA : Hid (mean bx rx = mean false xs) := Lib.hid (by rw [hmx.out, hdv.out, hm.out]); have hMx := Lib.hid (may_norm hvx.len hmx.out hrx.out); have hG := G.go hG hb2; have ka := ka.go hb2; have kx := Box.made hvx bx; have hG := hG.al (Obj.cells #[.bool bx, .slice Ax nx cx] 24); have ka := ka.alloc (Obj.cells #[.bool bx, .slice Ax nx cx] 24))
    | (go_at_call 25; (with_reducible refine (parse_dig S2 _ hG.tab h72 hinf2 HD2.out false T2 hT2 hTS2).mono ?_); rintro e w3 ⟨rfl, hb3⟩; have hG := G.go hG hb3; have ka := ka.go hb3; have kx := kx.go hb3; have hG := hG.al (Obj.cells #[.bool false, .slice none 0 0] 24); have ka := ka.alloc (Obj.cells #[.bool false, .slice none 0 0] 24); have kx := kx.alloc (Obj.cells #[.bool false, .slice none 0 0] 24); have pka := ka.1; have qka := ka.2.1; have pkx := kx.1; have qkx := kx.2.1)
    | (go_at_call 16; (with_reducible refine (same_is bx false Ax A nx n cx c rx xs _ kx.nv ka.nv hXA).mono ?_); rintro e w4 ⟨rfl, hb4⟩; have hG := G.go hG hb4; have ka := ka.go hb4; have kx := kx.go hb4; have pka := ka.1; have qka := ka.2.1; have pkx := kx.1; have qkx := kx.2.1)
    | (go_at_call 22; (with_reducible refine (may_is bx Ax nx cx rx _ kx.nv (t := true) hMx).mono ?_); rintro e w5 ⟨rfl, hb5⟩; have hG := G.go hG hb5; have ka := ka.go hb5; have kx := kx.go hb5; have pka := ka.1; have qka := ka.2.1; have pkx := kx.1; have qkx := kx.2.1)
    | (go_at_call 28; (with_reducible refine (bytes_not false A n c xs _ ka.nv hM).mono ?_); rintro e w6 ⟨rfl, hb6⟩; have hG := G.go hG hb6; have ka := ka.go hb6; have kx := kx.go hb6; have pka := ka.1; have qka := ka.2.1; have pkx := kx.1; have qkx := kx.2.1)
    | (go_at_call 22; (with_reducible refine (may_is false A n c xs _ ka.nv (t := false) hM).mono ?_); rintro e w7 ⟨rfl, hb7⟩; have hG := G.go hG hb7; have ka := ka.go hb7; have kx := kx.go hb7)
    | (go_at_call 11; (with_reducible refine (awake_any _ hG.tab).mono ?_); rintro e w8 ⟨rfl, hb8⟩; have hG := G.go hG hb8))
  go_ret
  exact ⟨rfl, hG.below⟩
set_option maxRecDepth 100000 in
set_option maxHeartbeats 8000000 in
theorem back_inot (w : World) (ht : Tab w) (A Ab : Option Addr) (n c Lb cb : Nat) (xs hs : List Int) (hx : NV w A n c xs) (_rb : Reads w w.heap.size 1 Ab Lb (hs.map (Value.int .u8))) (hn : n ≤ 64) (hL : Lb ≤ 300) (hm : Hid (mean true xs = none)) (S S2 : ByteArray) (hS : Hid (strV (textM none) = .string S)) (hS2 : (⟨#[48]⟩ : ByteArray) ++ S = S2) (h7 : ¬ 700 < S.size) (h72 : ¬ 700 < S2.size) (hinf : (S.toList == [105, 110, 102]) = true) (hinf2 : (S2.toList == [105, 110, 102]) = false) (J : Nat) (hJ : J < S2.size) (hbad : ((S2[J]'hJ).toNat : Int) < 48 ∨ (57 : Int) < ((S2[J]'hJ).toNat : Int)) (hd : ∀ k (h : k < S2.size), k < J → dig (S2[k]'h)) (hM : Hid (((n : Int) == 0) = false)) :
    Calls Tryd.prog 9 #[.agg #[.bool true, .slice A n c], .slice Ab Lb cb] w fun e w' => e = .returned (.bool true) ∧ Below w.heap.size w w' := by
  have hb0 := below_al (Below.refl w.heap.size w) (Obj.cells #[.bool true, .slice A n c] 24)
  have hG : G w (w.alloc (Obj.cells #[.bool true, .slice A n c] 24)) := ⟨hb0, ht.below hb0⟩
  have ka := Box.made hx true
  have g1 : ¬ (64 : Int) < (n : Int) := by omega
  have g2 : ¬ (300 : Int) < (Lb : Int) := by omega
  have pka := ka.1
  have qka := ka.2.1
  skip
  go_enter Tryd.func9, Tryd.ntmps9
  go_wp2_with (first
    | (go_at_call 26; (with_reducible refine (text_is true A n c xs _ ka.nv (by omega) hG.tab hm hS).mono ?_); rintro e w1 ⟨rfl, hb1⟩; have hG := G.go hG hb1; have ka := ka.go hb1)
    | (go_at_call 25; (with_reducible refine (parse_inf S _ h7 hinf).mono ?_); rintro e w2 ⟨rfl, hb2⟩; have hvx : NV w2 none 0 0 [] := NV.nil _; have hXA : Hid (mean true [] = mean true xs) := Lib.hid rfl; have hG := G.go hG hb2; have ka := ka.go hb2; have kx := Box.made hvx true; have hG := hG.al (Obj.cells #[.bool true, .slice none 0 0] 24); have ka := ka.alloc (Obj.cells #[.bool true, .slice none 0 0] 24))
    | (go_at_call 25; (with_reducible refine (parse_bad S2 _ hG.tab h72 hinf2 J hJ hbad hd).mono ?_); rintro e w3 ⟨rfl, hb3⟩; have hG := G.go hG hb3; have ka := ka.go hb3; have kx := kx.go hb3; have hG := hG.al (Obj.cells #[.bool false, .slice none 0 0] 24); have ka := ka.alloc (Obj.cells #[.bool false, .slice none 0 0] 24); have kx := kx.alloc (Obj.cells #[.bool false, .slice none 0 0] 24); have pka := ka.1; have qka := ka.2.1; have pkx := kx.1; have qkx := kx.2.1)
    | (go_at_call 16; (with_reducible refine (same_is true true none A 0 n 0 c [] xs _ kx.nv ka.nv hXA).mono ?_); rintro e w4 ⟨rfl, hb4⟩; have hG := G.go hG hb4; have ka := ka.go hb4; have kx := kx.go hb4; have pka := ka.1; have qka := ka.2.1; have pkx := kx.1; have qkx := kx.2.1)
    | (go_at_call 22; (with_reducible refine (may_top _).mono ?_); rintro e w5 ⟨rfl, hb5⟩; have hG := G.go hG hb5; have ka := ka.go hb5; have kx := kx.go hb5; have pka := ka.1; have qka := ka.2.1; have pkx := kx.1; have qkx := kx.2.1)
    | (go_at_call 28; (with_reducible refine (bytes_tnot A n c xs _ ka.nv hM).mono ?_); rintro e w6 ⟨rfl, hb6⟩; have hG := G.go hG hb6; have ka := ka.go hb6; have kx := kx.go hb6; have pka := ka.1; have qka := ka.2.1; have pkx := kx.1; have qkx := kx.2.1)
    | (go_at_call 22; (with_reducible refine (may_tis A n c xs _ ka.nv (t := false) hM).mono ?_); rintro e w7 ⟨rfl, hb7⟩; have hG := G.go hG hb7; have ka := ka.go hb7; have kx := kx.go hb7)
    | (go_at_call 11; (with_reducible refine (awake_any _ hG.tab).mono ?_); rintro e w8 ⟨rfl, hb8⟩; have hG := G.go hG hb8))
  go_ret
  exact ⟨rfl, hG.below⟩
set_option maxRecDepth 100000 in
set_option maxHeartbeats 8000000 in
theorem back_iok (w : World) (ht : Tab w) (A Ab : Option Addr) (n c Lb cb : Nat) (xs hs : List Int) (hx : NV w A n c xs) (rb : Reads w w.heap.size 1 Ab Lb (hs.map (Value.int .u8))) (hn : n ≤ 64) (hL : Lb ≤ 300) (hm : Hid (mean true xs = none)) (S S2 : ByteArray) (hS : Hid (strV (textM none) = .string S)) (hS2 : (⟨#[48]⟩ : ByteArray) ++ S = S2) (h7 : ¬ 700 < S.size) (h72 : ¬ 700 < S2.size) (hinf : (S.toList == [105, 110, 102]) = true) (hinf2 : (S2.toList == [105, 110, 102]) = false) (J : Nat) (hJ : J < S2.size) (hbad : ((S2[J]'hJ).toNat : Int) < 48 ∨ (57 : Int) < ((S2[J]'hJ).toNat : Int)) (hd : ∀ k (h : k < S2.size), k < J → dig (S2[k]'h)) (hM : Hid (((n : Int) == 0) = true)) :
    Calls Tryd.prog 9 #[.agg #[.bool true, .slice A n c], .slice Ab Lb cb] w fun e w' => e = .returned (.bool true) ∧ Below w.heap.size w w' := by
  have hb0 := below_al (Below.refl w.heap.size w) (Obj.cells #[.bool true, .slice A n c] 24)
  have hG : G w (w.alloc (Obj.cells #[.bool true, .slice A n c] 24)) := ⟨hb0, ht.below hb0⟩
  have ka := Box.made hx true
  have g1 : ¬ (64 : Int) < (n : Int) := by omega
  have g2 : ¬ (300 : Int) < (Lb : Int) := by omega
  have pka := ka.1
  have qka := ka.2.1
  obtain ⟨i5, hi, hz0, hz1, hz2⟩ := i5
  have h255 : (([] : List Int) ++ [255] ++ hs).getD 0 0 = 255 := rfl
  go_enter Tryd.func9, Tryd.ntmps9
  go_wp2_with (first
    | (go_at_call 26; (with_reducible refine (text_is true A n c xs _ ka.nv (by omega) hG.tab hm hS).mono ?_); rintro e w1 ⟨rfl, hb1⟩; have hG := G.go hG hb1; have ka := ka.go hb1)
    | (go_at_call 25; (with_reducible refine (parse_inf S _ h7 hinf).mono ?_); rintro e w2 ⟨rfl, hb2⟩; have hvx : NV w2 none 0 0 [] := NV.nil _; have hXA : Hid (mean true [] = mean true xs) := Lib.hid rfl; have hG := G.go hG hb2; have ka := ka.go hb2; have kx := Box.made hvx true; have hG := hG.al (Obj.cells #[.bool true, .slice none 0 0] 24); have ka := ka.alloc (Obj.cells #[.bool true, .slice none 0 0] 24))
    | (go_at_call 25; (with_reducible refine (parse_bad S2 _ hG.tab h72 hinf2 J hJ hbad hd).mono ?_); rintro e w3 ⟨rfl, hb3⟩; have hG := G.go hG hb3; have ka := ka.go hb3; have kx := kx.go hb3; have hG := hG.al (Obj.cells #[.bool false, .slice none 0 0] 24); have ka := ka.alloc (Obj.cells #[.bool false, .slice none 0 0] 24); have kx := kx.alloc (Obj.cells #[.bool false, .slice none 0 0] 24); have pka := ka.1; have qka := ka.2.1; have pkx := kx.1; have qkx := kx.2.1)
    | (go_at_call 16; (with_reducible refine (same_is true true none A 0 n 0 c [] xs _ kx.nv ka.nv hXA).mono ?_); rintro e w4 ⟨rfl, hb4⟩; have hG := G.go hG hb4; have ka := ka.go hb4; have kx := kx.go hb4; have pka := ka.1; have qka := ka.2.1; have pkx := kx.1; have qkx := kx.2.1)
    | (go_at_call 22; (with_reducible refine (may_top _).mono ?_); rintro e w5 ⟨rfl, hb5⟩; have hG := G.go hG hb5; have ka := ka.go hb5; have kx := kx.go hb5; have pka := ka.1; have qka := ka.2.1; have pkx := kx.1; have qkx := kx.2.1)
    | (go_at_call 28; (with_reducible refine (bytes_tinf A n c xs _ ka.nv hM).mono ?_); rintro e w6 ⟨g6, rfl, rd6, hb6⟩; have hG := G.go hG hb6; have ka := ka.go hb6; have kx := kx.go hb6; have pka := ka.1; have qka := ka.2.1; have pkx := kx.1; have qkx := kx.2.1)
    | (at_builtin; refine wpList_append_reads _ (Value.int .u8) (fun _ => rfl) 41 5 i5 _ 1 Tryd.underlying41 hi hz0 hz1 hz2 rfl rfl (.tmp 73) (.tmp 74) rfl w6.heap.size _ 0 [] rfl (World.ownsRow_made w6 #[] 0 (Nat.le_refl _) (Nat.zero_le _) rfl) _ _ 1 _ [255] rfl (rd6.alloc (Nat.le_refl _) _) (by unfold maxLen; omega) (by omega) (by simp) ?_; intro A7 n7 c7 w7 hn7 hc7 hown7 hb7; have hb7 := (below_al (Below.refl w6.heap.size w6) _).trans hb7; have hG6 := hG; have ka6 := ka; have kx6 := kx; have hG := G.go hG hb7; have ka := ka.go hb7; have kx := kx.go hb7; have hsz7 := hb7.size)
    | (at_builtin; refine wpList_append_reads _ (Value.int .u8) (fun _ => rfl) 41 5 i5 _ 1 Tryd.underlying41 hi hz0 hz1 hz2 rfl rfl (.tmp 75) (.tmp 76) rfl w6.heap.size (.slice A7 n7 c7) n7 ([] ++ [255]) rfl hown7 _ _ Lb _ hs rfl (rb.below hG.below) (by have := hn7.out; unfold maxLen; omega) (by have := hn7.out; omega) (by omega) ?_; intro A8 n8 c8 w8 hn8 hc8 hown8 hb8; have hb8 := hb7.trans hb8; have hG := G.go hG6 hb8; have ka := ka6.go hb8; have kx := kx6.go hb8)
    | (go_at_call 30; (with_reducible refine (unb_inf A8 n8 c8 ([] ++ [255] ++ hs) _ (Reads.of_own hown8) (by have := hn8.out; have := hn7.out; omega) h255).mono ?_); rintro e w9 ⟨rfl, hb9⟩; have hG := G.go hG hb9; have ka := ka.go hb9; have kx := kx.go hb9; have ky := Box.made (NV.nil w9) true; have hG := hG.al (Obj.cells #[.bool true, .slice none 0 0] 24); have ka := ka.alloc (Obj.cells #[.bool true, .slice none 0 0] 24); have kx := kx.alloc (Obj.cells #[.bool true, .slice none 0 0] 24); have pka := ka.1; have qka := ka.2.1; have pkx := kx.1; have qkx := kx.2.1; have pky := ky.1; have qky := ky.2.1)
    | (go_at_call 18; (with_reducible refine (same_true true none none 0 0 0 [] _ (NV.nil _) (NV.nil _)).mono ?_); rintro e w10 ⟨rfl, hb10⟩; have hG := G.go hG hb10; have ka := ka.go hb10; have kx := kx.go hb10; have ky := ky.go hb10)
    | (go_at_call 11; (with_reducible refine (awake_any _ hG.tab).mono ?_); rintro e w8 ⟨rfl, hb11⟩; have hG := G.go hG hb11))
  go_ret
  exact ⟨rfl, hG.below⟩
set_option maxRecDepth 100000 in
set_option maxHeartbeats 8000000 in
theorem back_fok (w : World) (ht : Tab w) (A Ab : Option Addr) (n c Lb cb : Nat) (xs hs : List Int) (hx : NV w A n c xs) (rb : Reads w w.heap.size 1 Ab Lb (hs.map (Value.int .u8))) (hn : n ≤ 64) (hL : Lb ≤ 300) (v : Int) (hm : Hid (mean false xs = some v)) (S S2 T T2 : ByteArray) (hS : Hid (strV (textM (some v)) = .string S)) (hS2 : (⟨#[48]⟩ : ByteArray) ++ S = S2) (h7 : ¬ 700 < S.size) (h72 : ¬ 700 < S2.size) (hinf : (S.toList == [105, 110, 102]) = false) (hinf2 : (S2.toList == [105, 110, 102]) = false) (HD : Hid (∀ d ∈ S.data.toList, dig d)) (HD2 : Hid (∀ d ∈ S2.data.toList, dig d)) (hT : Hid (T = bs (decI (dval S.data.toList)))) (hT2 : Hid (T2 = bs (decI (dval S2.data.toList)))) (hTS : (T.toList == S.toList) = true) (hTS2 : (T2.toList == S2.toList) = false) (hdv : Hid (dval S.data.toList = v)) (hM : Hid ((if false then ((n : Int) == 0) else (((strip xs).length : Int) == (n : Int))) = true)) :
    Calls Tryd.prog 9 #[.agg #[.bool false, .slice A n c], .slice Ab Lb cb] w fun e w' => e = .returned (.bool true) ∧ Below w.heap.size w w' := by
  have hb0 := below_al (Below.refl w.heap.size w) (Obj.cells #[.bool false, .slice A n c] 24)
  have hG : G w (w.alloc (Obj.cells #[.bool false, .slice A n c] 24)) := ⟨hb0, ht.below hb0⟩
  have ka := Box.made hx false
  have g1 : ¬ (64 : Int) < (n : Int) := by omega
  have g2 : ¬ (300 : Int) < (Lb : Int) := by omega
  have pka := ka.1
  have qka := ka.2.1
  obtain ⟨i5, hi, hz0, hz1, hz2⟩ := i5
  have h00 : (([] : List Int) ++ byteL n xs ++ hs).getD 0 0 = (n : Int) := rfl
  have hxl := hx.len
  have hu := hx.2.2.1
  have hNx := Lib.hid (norm_may hxl hM.out)
  have hXL := Lib.hid hxl
  have hI : Hid (false = true → xs = []) := Lib.hid (fun h => by cases h)
  have hZ : Hid (∀ k, k < n → (([] : List Int) ++ byteL n xs ++ hs).getD (1 + 4 * k) 0 = xs.getD k 0 % 256 ∧ (([] : List Int) ++ byteL n xs ++ hs).getD (1 + 4 * k + 1) 0 = xs.getD k 0 / 256 % 256 ∧ (([] : List Int) ++ byteL n xs ++ hs).getD (1 + 4 * k + 2) 0 = xs.getD k 0 / 65536 % 256 ∧ (([] : List Int) ++ byteL n xs ++ hs).getD (1 + 4 * k + 3) 0 = xs.getD k 0 / 16777216) :=
    Lib.hid (fun k hk => ⟨byte_get n xs hs hxl k hk 0 (by omega), byte_get n xs hs hxl k hk 1 (by omega), byte_get n xs hs hxl k hk 2 (by omega), byte_get n xs hs hxl k hk 3 (by omega)⟩)
  clear hxl
  go_enter Tryd.func9, Tryd.ntmps9
  go_wp2_with (first
    | (go_at_call 26; (with_reducible refine (text_is false A n c xs _ ka.nv (by omega) hG.tab hm hS).mono ?_); rintro e w1 ⟨rfl, hb1⟩; have hG := G.go hG hb1; have ka := ka.go hb1)
    | (go_at_call 25; (with_reducible refine (parse_dig S _ hG.tab h7 hinf HD.out true T hT hTS).mono ?_); rintro e w2 ⟨bx, Ax, nx, cx, rx, rfl, hvx, hmx, hrx, hix, hnx, hb2⟩; have hXA : Hid (mean bx rx = mean false xs) := Lib.hid (by rw [hmx.out, hdv.out, hm.out]); have hMx := Lib.hid (may_norm hvx.len hmx.out hrx.out); have hG := G.go hG hb2; have ka := ka.go hb2; have kx := Box.made hvx bx; have hG := hG.al (Obj.cells #[.bool bx, .slice Ax nx cx] 24); have ka := ka.alloc (Obj.cells #[.bool bx, .slice Ax nx cx] 24))
    | (go_at_call 25; (with_reducible refine (parse_dig S2 _ hG.tab h72 hinf2 HD2.out false T2 hT2 hTS2).mono ?_); rintro e w3 ⟨rfl, hb3⟩; have hG := G.go hG hb3; have ka := ka.go hb3; have kx := kx.go hb3; have hG := hG.al (Obj.cells #[.bool false, .slice none 0 0] 24); have ka := ka.alloc (Obj.cells #[.bool false, .slice none 0 0] 24); have kx := kx.alloc (Obj.cells #[.bool false, .slice none 0 0] 24); have pka := ka.1; have qka := ka.2.1; have pkx := kx.1; have qkx := kx.2.1)
    | (go_at_call 16; (with_reducible refine (same_is bx false Ax A nx n cx c rx xs _ kx.nv ka.nv hXA).mono ?_); rintro e w4 ⟨rfl, hb4⟩; have hG := G.go hG hb4; have ka := ka.go hb4; have kx := kx.go hb4; have pka := ka.1; have qka := ka.2.1; have pkx := kx.1; have qkx := kx.2.1)
    | (go_at_call 22; (with_reducible refine (may_is bx Ax nx cx rx _ kx.nv (t := true) hMx).mono ?_); rintro e w5 ⟨rfl, hb5⟩; have hG := G.go hG hb5; have ka := ka.go hb5; have kx := kx.go hb5; have pka := ka.1; have qka := ka.2.1; have pkx := kx.1; have qkx := kx.2.1)
    | (go_at_call 28; (with_reducible refine (bytes_fin A n c xs _ ka.nv hn hM).mono ?_); rintro e w6 ⟨A6, c6, rfl, rd6, hc6, hb6⟩; have hG := G.go hG hb6; have ka := ka.go hb6; have kx := kx.go hb6; have pka := ka.1; have qka := ka.2.1; have pkx := kx.1; have qkx := kx.2.1)
    | (at_builtin; refine wpList_append_reads _ (Value.int .u8) (fun _ => rfl) 41 5 i5 _ 1 Tryd.underlying41 hi hz0 hz1 hz2 rfl rfl (.tmp 73) (.tmp 74) rfl w6.heap.size _ 0 [] rfl (World.ownsRow_made w6 #[] 0 (Nat.le_refl _) (Nat.zero_le _) rfl) _ _ (1 + 4 * n) _ (byteL n xs) rfl (rd6.alloc (Nat.le_refl _) _) (by unfold maxLen; omega) (by omega) (by simp) ?_; intro A7 n7 c7 w7 hn7 hc7 hown7 hb7; have hb7 := (below_al (Below.refl w6.heap.size w6) _).trans hb7; have hG6 := hG; have ka6 := ka; have kx6 := kx; have hG := G.go hG hb7; have ka := ka.go hb7; have kx := kx.go hb7; have hsz7 := hb7.size)
    | (at_builtin; refine wpList_append_reads _ (Value.int .u8) (fun _ => rfl) 41 5 i5 _ 1 Tryd.underlying41 hi hz0 hz1 hz2 rfl rfl (.tmp 75) (.tmp 76) rfl w6.heap.size (.slice A7 n7 c7) n7 ([] ++ (byteL n xs)) rfl hown7 _ _ Lb _ hs rfl (rb.below hG.below) (by have := hn7.out; unfold maxLen; omega) (by have := hn7.out; omega) (by omega) ?_; intro A8 n8 c8 w8 hn8 hc8 hown8 hb8; have hb8 := hb7.trans hb8; have hG := G.go hG6 hb8; have ka := ka6.go hb8; have kx := kx6.go hb8)
    | (go_at_call 30; (with_reducible refine (unb_fin A8 n8 c8 n ([] ++ byteL n xs ++ hs) xs _ (Reads.of_own hown8) hn (by have := hn8.out; have := hn7.out; omega) (by have := hn8.out; have := hn7.out; omega) h00 hXL.out hu hZ hM).mono ?_); rintro e w9 ⟨A9, c9, rfl, hv9, hb9⟩; have hG := G.go hG hb9; have ka := ka.go hb9; have kx := kx.go hb9; have ky := Box.made hv9 false; have hG := hG.al (Obj.cells #[.bool false, .slice A9 n c9] 24); have ka := ka.alloc (Obj.cells #[.bool false, .slice A9 n c9] 24); have kx := kx.alloc (Obj.cells #[.bool false, .slice A9 n c9] 24); have pka := ka.1; have qka := ka.2.1; have pkx := kx.1; have qkx := kx.2.1; have pky := ky.1; have qky := ky.2.1)
    | (go_at_call 18; (with_reducible refine (same_num false bx A9 Ax n nx c9 cx xs rx _ ky.nv kx.nv (Lib.hid hXA.out.symm) hNx hrx hI hix).mono ?_); rintro e w10 ⟨rfl, hb10⟩; have hG := G.go hG hb10; have ka := ka.go hb10; have kx := kx.go hb10; have ky := ky.go hb10)
    | (go_at_call 11; (with_reducible refine (awake_any _ hG.tab).mono ?_); rintro e w8 ⟨rfl, hb11⟩; have hG := G.go hG hb11))
  go_ret
  exact ⟨rfl, hG.below⟩
end Go.Proofs.YtdpheomokeikbaaDoor
