/- Whole prices that are not too great, one of infinity among them or not, are added without rounding, in whatever order and groups. No condition. -/
import Derived.Test.YtlbakakfjcmldaaWl
import Derived.Deep.RegionHeld3
import Derived.Deep.RegionLaw
namespace Go.Proofs.Ytlbakakfjcmldaa
open Go.ChangeShapes Go.WideShapes Go.ChangeAt Go.RowKit Go.FT

theorem info22 : (Try.prog.info? 22).map (fun i => (i.zero, i.size, i.bytes)) = some (some (.float .f64 0), 1, 8) := by kernel_rfl
theorem open_ints64 {H : Type} {enc : TypeId × Value → H} {W : World} {r : Reach} {b0 : Nat} {v : Value} {d : DataW H} {ps : List MemPlace}
    (hval : Value.okWide Try.prog W r b0 30 v) (h : DataW.Trod enc Try.prog W 0 (fun _ => true) true 30 v d ps) :
    ∃ (A : Option Addr) (xs : List Int) (c : Nat), v = .slice A xs.length c ∧ Reads W W.heap.size 1 A xs.length (xs.map (Value.int .i64)) ∧ (∀ x ∈ xs, (Lit.int .i64 x).wf = true) ∧ xs.length ≤ maxLen ∧ xs.length ≤ c :=
  open_reads (Value.int .i64) (fun x => (Lit.int .i64 x).wf = true) Try.underlying30 (by kernel_rfl) hval h (cell_int Try.underlying3)
def IS (w : World) (A : Option Addr) (xs : List Int) (c : Nat) : Prop := Reads w w.heap.size 1 A xs.length (xs.map (Value.int .i64)) ∧ (∀ x ∈ xs, (Lit.int .i64 x).wf = true) ∧ xs.length ≤ maxLen ∧ xs.length ≤ c

theorem rot_ok {L : List (Option Nat)} (h : ∀ o ∈ L, okO M40 o) (k : Nat) : ∀ o ∈ L.drop k ++ L.take k, okO M40 o := fun o ho => h o ((mem_rot L k o).1 ho)
theorem sum_ok {l : List (Option Nat)} (h : ∀ o ∈ l, okO M40 o) (hl : l.length ≤ 201) : okO (2 * B - 1) (sumO l) :=
  okO_mono (sumO_ok l h) (Nat.le_trans (Nat.mul_le_mul_right _ hl) (by decide))
theorem split_sum {L : List (Option Nat)} (h : ∀ o ∈ L, okO M40 o) (hl : L.length ≤ 201) (k : Nat) : pe (E (sumO (L.take k))) (E (sumO (L.drop k))) = 0 ∧ pv (E (sumO (L.take k))) (E (sumO (L.drop k))) = E (sumO L) := by
  have a := sum_ok (l := L.take k) (fun o ho => h o (List.mem_of_mem_take ho)) (by simp; omega)
  have b := sum_ok (l := L.drop k) (fun o ho => h o (List.mem_of_mem_drop ho)) (by simp; omega)
  obtain ⟨h1, h2⟩ := E_add a b
  refine ⟨h1, ?_⟩
  rw [h2, ← sumO_append, List.take_append_drop]
theorem all_lt {L : List (Option Nat)} (h : ∀ o ∈ L, okO M40 o) : ∀ x ∈ L.map E, x < W64 := by
  intro x hx
  obtain ⟨o, ho, rfl⟩ := List.mem_map.1 hx
  exact E_lt (okO_mono (h o ho) (by decide))
theorem ord_self {r : Nat} (h : r ≤ INF) : (FloatKind.f64.format.order r r == some .eq) = true := by
  have : FloatKind.f64.format.order r r = some (compare r r) := order_fin h h
  rw [this, cmp_eq]; simp
/-- The first k of the numbers, as prices. -/
def Ls (zs : List Int) (k : Nat) : List (Option Nat) := (zs.take k).map (fun z => some z.toNat)
def sumI (zs : List Int) (k : Nat) : Nat := ((zs.take k).map (fun z => z.toNat)).sum
theorem Ls_succ {zs : List Int} {k : Nat} (h : k < zs.length) : Ls zs (k + 1) = Ls zs k ++ [some (zs.getD k 0).toNat] := by
  unfold Ls
  rw [List.take_succ_eq_append_getElem h, List.map_append, List.getD_eq_getElem?_getD, List.getElem?_eq_getElem h]; rfl
theorem sumI_succ {zs : List Int} {k : Nat} (h : k < zs.length) : sumI zs (k + 1) = sumI zs k + (zs.getD k 0).toNat := by
  unfold sumI
  rw [List.take_succ_eq_append_getElem h, List.map_append, List.sum_append, List.getD_eq_getElem?_getD, List.getElem?_eq_getElem h]; simp
theorem sumO_Ls (zs : List Int) (k : Nat) : sumO (Ls zs k) = some (sumI zs k) := by
  unfold Ls sumI
  induction zs.take k with
  | nil => rfl
  | cons a l ih => rw [List.map_cons, List.map_cons, sumO, ih, List.sum_cons]; rfl
theorem sumI_le {zs : List Int} {k : Nat} (h : ∀ o ∈ Ls zs k, okO M40 o) (hk : k ≤ 200) : sumI zs k ≤ 200 * M40 := by
  have h1 := sumO_ok _ h
  rw [sumO_Ls] at h1
  have h2 : (Ls zs k).length ≤ 200 := by unfold Ls; simp; omega
  exact Nat.le_trans h1 (Nat.mul_le_mul_right _ h2)
theorem read_int {w : World} {B n k : Nat} {A : Option Addr} {zs : List Int} (h : Reads w B 1 A n (zs.map (Value.int .i64))) (hk : k < zs.length) :
    ∃ ad, A = some ad ∧ ad.block < B ∧ w.cell? (ad.add k) = some (.int .i64 (zs.getD k 0)) := by
  have hn : k < n := by have := h.1; simp at this; omega
  obtain ⟨ad, u, e, hb, hx, hc⟩ := h.at_ hn
  refine ⟨ad, e, hb, ?_⟩
  rw [hc, ← hx, List.getElem?_map, List.getElem?_eq_getElem hk, List.getD_eq_getElem?_getD, List.getElem?_eq_getElem hk]; rfl

theorem tmod_bd1 (q : Int) (n : Nat) : -((n : Int) + 1) < q.tmod (↑n + 1) ∧ q.tmod (↑n + 1) < (n : Int) + 1 := by
  refine ⟨?_, Int.tmod_lt_of_pos q (by omega)⟩
  have := Int.lt_tmod_of_pos q (b := (n : Int) + 1) (by omega)
  omega
theorem exact_n (A : Option Addr) (n c : Nat) (xs : List Nat) (w : World) {B : Nat} (hr : Reads w B 1 A n (xs.map (Value.float .f64))) (hx : ∀ x ∈ xs, x < W64) :
    Calls Try.prog 17 #[.slice A n c] w fun e w' => e = .returned (.bool (exL xs)) ∧ w = w' := by
  have e : n = xs.length := by have := hr.1; simpa using this.symm
  subst e
  exact exact_any A c xs w (Rd.of_reads hr) hx
theorem last_cell {w : World} {B n : Nat} {A : Option Addr} {xs : List Nat} {x : Nat} (h : Reads w B 1 A n ((xs ++ [x]).map (Value.float .f64))) (h0 : 0 < n) : ∃ ad, A = some ad ∧ w.cell? (ad.add (n - 1)) = some (.float .f64 x) := by
  have hn : (xs ++ [x]).length = n := by have := h.1; simpa using this
  obtain ⟨ad, e, _, hc⟩ := h.2 h0
  refine ⟨ad, e, hc (n - 1) _ ?_⟩
  rw [List.getElem?_map, ← hn, List.length_append, List.length_singleton, Nat.add_sub_cancel, List.getElem?_append_right (Nat.le_refl _), Nat.sub_self]
  rfl
set_option maxRecDepth 100000 in
set_option maxHeartbeats 8000000 in
theorem exact_main (w : World) (A : Option Addr) (zs : List Int) (c : Nat) (q : Int) (inf : Bool) (hzs : IS w A zs c) (hl : zs.length ≤ 200) :
    Calls Try.prog 5 #[.slice A zs.length c, .int .i64 q, .bool inf] w fun e w' => e = .returned (.bool true) ∧ Below w.heap.size w w' := by
  obtain ⟨hr0, _, hn, hcc0⟩ := hzs
  obtain ⟨i0, hi, hz0, hz1, hz2⟩ := info_parts info22
  go_enter Try.func5, Try.ntmps5
  go_wp2_with fail
  go_loopw [7, 8, 9] (fun n x i wr => ∃ (k : Nat) (Ax : Option Addr) (cx : Nat), Below w.heap.size w wr ∧ k ≤ zs.length ∧ i = .int .i64 k ∧ n = .int .i64 (sumI zs k : Nat) ∧ x = .slice Ax k cx ∧ k ≤ cx ∧ OE wr w.heap.size 22 (.slice Ax k cx) k (((Ls zs k).map E).map (Value.float .f64)) ∧ Hid (∀ o ∈ Ls zs k, okO M40 o)) (fun _ _ i _ => zs.length - (intOf i).toNat)
  case atStart => exact ⟨0, none, 0, Below.refl _ _, Nat.zero_le _, rfl, by simp [sumI], rfl, Nat.le_refl _, OE.empty _ _ _ _, Lib.hid (by simp [Ls])⟩
  case round =>
    obtain ⟨k, Ax, cx, hbw, hk, rfl, rfl, rfl, hkc, hox, hok⟩ := hrel
    by_cases hlt : k < zs.length
    · obtain ⟨ad, rfl, hb, hc⟩ := read_int (hr0.below hbw) hlt
      have hLs := Lib.hid (Ls_succ hlt)
      have hSs := Lib.hid (sumI_succ hlt)
      have hS := sumI_le hok.out (by omega)
      generalize zs.getD k 0 = z at *
      by_cases h0 : z < 0
      · go_wp2_with (go_at_call 14; refine (awake_any _).mono ?_; rintro e w' ⟨rfl, hb⟩)
        go_ret
        exact ⟨rfl, below_step hbw hb hbw.size⟩
      · by_cases h1 : 1099511627776 < z
        · go_wp2_with (go_at_call 14; refine (awake_any _).mono ?_; rintro e w' ⟨rfl, hb⟩)
          go_ret
          exact ⟨rfl, below_step hbw hb hbw.size⟩
        · have hfl : floatOfInt .f64 z = E (some z.toNat) := floatOfInt_F (by omega)
          have hz1' : 0 ≤ z := by omega
          have hz2' : z ≤ 1099511627776 := by omega
          have hS' : ((sumI zs k : Nat) : Int) ≤ 219902325555200 := by unfold M40 at hS; omega
          have HSk := Lib.hid hS
          clear h0 h1 hS
          go_wp2_with (first
            | (at_builtin; refine wpList_append_oe _ (Value.float .f64) (fun _ => rfl) 31 22 i0 _ 8 Try.underlying31 hi hz0 hz1 hz2 rfl rfl (.tmp 50) (.tmp 56) rfl w.heap.size _ k ((Ls zs k).map E) rfl (hox.alloc _) _ _ 1 _ [E (some z.toNat)] rfl (Reads.lit1 _ _ _ _) (by unfold maxLen; omega) (by omega) (by have := hbw.size; simp; omega) ?_; intro A1 n1 c1 w1 hn1 hc1 hown1 hb1))
          obtain rfl : n1 = k + 1 := hn1.out
          go_roundw
          case rel => exact ⟨k + 1, A1, c1, below_step (below_al hbw _) hb1 (Nat.le_refl _), by omega, by go_num, by rw [hSs.out]; go_num, rfl, hc1.out, by rw [hLs.out, List.map_append]; exact hown1, Lib.hid (by
            rw [hLs.out]
            intro o ho
            rcases List.mem_append.1 ho with ho | ho
            · exact hok.out o ho
            · rw [List.mem_singleton.1 ho]; show z.toNat ≤ M40; unfold M40; omega)⟩
          case measure => simp [intOf]; omega
    · have hkl : k = zs.length := by omega
      have hS := sumI_le hok.out (by omega)
      obtain ⟨hm1, hm2⟩ := tmod_bd1 q k
      have hk2 : k ≤ 200 := by omega
      have hS' : ((sumI zs k : Nat) : Int) ≤ 219902325555200 := by unfold M40 at hS; omega
      clear hS hkl
      have hlen : (Ls zs k).length = k := by unfold Ls; simp; omega
      cases inf with
      | false =>
        obtain ⟨R, hRe⟩ : ∃ R, R = E (sumO (Ls zs k)) := ⟨_, rfl⟩
        have hwant : floatOfInt .f64 ((sumI zs k : Nat) : Int) = R := by rw [hRe, floatOfInt_F (by omega), sumO_Ls]; rfl
        have hR := Lib.hid hRe.symm
        have HLok := hok
        have hkc0 := hkc
        have HO8 := hox
        have HBW := hbw
        have HRL : Reads wr wr.heap.size 1 Ax k (((Ls zs k).map E).map (Value.float .f64)) := HO8.reads
        have HP := Lib.hid (show pathG 0 ((Ls zs k).map E) = (R, 0) by rw [path_E HLok.out (by omega), hR.out])
        clear hRe
        have HL8 := Lib.hid hlen
        clear hlen
        go_wp2_with fail
        all_goals
          have hpick : ∃ kk : Nat, kk ≤ k ∧ ((q.tmod (↑k + 1) < 0 ∧ q.tmod (↑k + 1) + ↑k + 1 = (kk : Int)) ∨ (¬ q.tmod (↑k + 1) < 0 ∧ q.tmod (↑k + 1) = (kk : Int))) := by
            by_cases e : q.tmod (↑k + 1) < 0
            · exact ⟨(q.tmod (↑k + 1) + ↑k + 1).toNat, by omega, .inl ⟨e, by omega⟩⟩
            · exact ⟨(q.tmod (↑k + 1)).toNat, by omega, .inr ⟨e, by omega⟩⟩
          obtain ⟨kk, hkk1, hpick⟩ := hpick
          have hkkc : kk ≤ cx := by omega
          first
          | (have hneg : q.tmod (↑k + 1) < 0 := by assumption
             rcases hpick with ⟨_, hz⟩ | ⟨e, _⟩
             rotate_left
             exact absurd hneg e
             rw [hz])
          | (have hneg : ¬ q.tmod (↑k + 1) < 0 := by first | assumption | omega
             rcases hpick with ⟨e, _⟩ | ⟨_, hz⟩
             exact absurd e hneg
             rw [hz])
          clear hz hm1 hm2
          have hl1 : ((Ls zs k).take kk).length ≤ 201 := by simp only [List.length_take]; have := HL8.out; omega
          have hl2 : ((Ls zs k).drop kk).length ≤ 201 := by simp only [List.length_drop]; have := HL8.out; omega
          have hl3 : ((Ls zs k).drop kk ++ (Ls zs k).take kk).length ≤ 201 := by rw [List.length_append, List.length_take, List.length_drop]; have := HL8.out; omega
          have hl4 : (Ls zs k).length ≤ 201 := by have := HL8.out; omega
          have HPR := Lib.hid (show pathG 0 ((((Ls zs k).map E).drop kk) ++ (((Ls zs k).map E).take kk)) = (R, 0) by rw [← List.map_drop, ← List.map_take, ← List.map_append, path_E (rot_ok HLok.out kk) hl3, sumO_rot, hR.out])
          have HPT := Lib.hid (show pathG 0 (((Ls zs k).map E).take kk) = (E (sumO ((Ls zs k).take kk)), 0) by rw [← List.map_take, path_E (fun o ho => HLok.out o (List.mem_of_mem_take ho)) hl1])
          have HPD := Lib.hid (show pathG 0 (((Ls zs k).map E).drop kk) = (E (sumO ((Ls zs k).drop kk)), 0) by rw [← List.map_drop, path_E (fun o ho => HLok.out o (List.mem_of_mem_drop ho)) hl2])
          have HPS := Lib.hid (split_sum HLok.out hl4 kk)
          have hpe := HPS.out.1
          have hpv : pv (E (sumO ((Ls zs k).take kk))) (E (sumO ((Ls zs k).drop kk))) = R := HPS.out.2.trans hR.out
          have hex := exL_E HLok.out hl4
          have HLT := all_lt HLok.out
          have HLR := rot_lt HLT kk
          have HLTT : ∀ x ∈ (((Ls zs k).map E).take kk), x < W64 := fun x hx => HLT x (List.mem_of_mem_take hx)
          have HLTD : ∀ x ∈ (((Ls zs k).map E).drop kk), x < W64 := fun x hx => HLT x (List.mem_of_mem_drop hx)
          have heq : (FloatKind.f64.format.order R R == some .eq) = true := by
            rw [← hR.out]; exact ord_self (E_le (sum_ok HLok.out hl4))
          have hlt1 := E_lt (sum_ok (l := (Ls zs k).take kk) (fun o ho => HLok.out o (List.mem_of_mem_take ho)) hl1)
          have hlt2 := E_lt (sum_ok (l := (Ls zs k).drop kk) (fun o ho => HLok.out o (List.mem_of_mem_drop ho)) hl2)
          clear hl1 hl2 hl3 hl4
          go_wp2_with (first
            | (go_at_call 16; (with_reducible refine (path_n Ax k cx ((Ls zs k).map E) wr HRL HLT (by omega)).mono ?_); rw [HP.out]; rintro e w' ⟨rfl, rfl⟩))
          go_region_law (first
            | (refine step_append_oe _ (Value.float .f64) (fun _ => rfl) 31 22 i0 _ 8 Try.underlying31 hi hz0 hz1 hz2 rfl (by rfl) (.tmp 89) (.tmp 92) (by rfl) wr.heap.size _ 0 [] (by rfl) (OE.empty _ _ _ _) wr.heap.size _ _ _ (((Ls zs k).map E).drop kk) (by rfl) ((HRL.cut1 hkk1 hkc0).below (by (repeat first | assumption | exact Below.refl _ _ | apply below_dr | apply below_al))) (by unfold maxLen; omega) (by omega) (by exact Below.size (B := wr.heap.size) (w := wr) (by (repeat first | assumption | exact Below.refl _ _ | apply below_dr | apply below_al))) ?_; intro A93 n93 c93 w93 hn93 hc93 ho93 hb93; have HB93 : Below wr.heap.size wr w93 := below_step (by (repeat first | assumption | exact Below.refl _ _ | apply below_dr | apply below_al)) hb93 (Nat.le_refl _))
            | (refine step_append_oe _ (Value.float .f64) (fun _ => rfl) 31 22 i0 _ 8 Try.underlying31 hi hz0 hz1 hz2 rfl (by rfl) (.tmp 93) (.tmp 96) (by rfl) wr.heap.size _ n93 (((Ls zs k).map E).drop kk) (by rfl) ho93 wr.heap.size _ _ _ (((Ls zs k).map E).take kk) (by rfl) ((HRL.take1 hkk1).below (by (repeat first | assumption | exact Below.refl _ _ | apply below_dr | apply below_al))) (by unfold maxLen; have := hn93.out; omega) (by have := hn93.out; omega) (by exact HB93.size) ?_; intro A97 n97 c97 w97 hn97 hc97 ho97 hb97; have HB97 : Below wr.heap.size wr w97 := below_step (by (repeat first | assumption | exact Below.refl _ _ | apply below_dr | apply below_al)) hb97 (Nat.le_refl _))
            | (go_simp; go_at_call 16; (with_reducible refine (path_n A97 n97 c97 ((((Ls zs k).map E).drop kk) ++ (((Ls zs k).map E).take kk)) w97 ho97.reads HLR (by have := hn97.out; have := hn93.out; omega)).mono ?_); rw [HPR.out]; rintro e w' ⟨rfl, rfl⟩))
          all_goals
            have HRW := HRL.below HB97
            go_wp2_with (first
              | (go_at_call 16; (with_reducible refine (path_n Ax kk cx (((Ls zs k).map E).take kk) w97 (HRW.take1 hkk1) HLTT (by omega)).mono ?_); rw [HPT.out]; rintro e w' ⟨rfl, rfl⟩)
              | (go_at_call 16; (with_reducible refine (path_n (if cx = kk then Ax else Option.map (fun x => x.add kk) Ax) (k - kk) (cx - kk) (((Ls zs k).map E).drop kk) w97 (HRW.cut1 hkk1 hkc0) HLTD (by omega)).mono ?_); rw [HPD.out]; rintro e w' ⟨rfl, rfl⟩)
              | (go_at_call 11; refine (plus_any _ _ _ hlt1 hlt2).mono ?_; rintro e w' ⟨rfl, rfl⟩)
              | (go_at_call 17; refine (exact_n Ax k cx ((Ls zs k).map E) w97 HRW HLT).mono ?_; rintro e w' ⟨rfl, rfl⟩)
              | (go_at_call 14; refine (awake_any _).mono ?_; rintro e w' ⟨rfl, hb⟩))
            all_goals
              go_ret
              exact ⟨rfl, below_step (below_step HBW HB97 HBW.size) hb (below_step HBW HB97 HBW.size).size⟩
  
      | true =>
        obtain ⟨L, hLd⟩ : ∃ L, L = Ls zs k ++ [none] := ⟨_, rfl⟩
        have HLD := Lib.hid hLd
        clear hLd
        have HLok : Hid (∀ o ∈ L, okO M40 o) := Lib.hid (by
          intro o ho
          rw [HLD.out] at ho
          rcases List.mem_append.1 ho with ho | ho
          · exact hok.out o ho
          · rw [List.mem_singleton.1 ho]; trivial)
        have hR : Hid (E (sumO L) = INF) := Lib.hid (by rw [HLD.out, sumO_append, addO_comm]; rfl)
        have hlen2 : L.length = k + 1 := by rw [HLD.out, List.length_append, hlen]; rfl
        have HP := Lib.hid (show pathG 0 (L.map E) = (INF, 0) by rw [path_E HLok.out (by omega), hR.out])
        have HL8' := Lib.hid hlen2
        clear hlen hlen2 hm1 hm2
        go_wp2_with (first
          | (go_at_call 15; refine (of_inf _).mono ?_; rintro e w' ⟨rfl, rfl⟩)
          | (at_builtin; refine wpList_append_oe _ (Value.float .f64) (fun _ => rfl) 31 22 i0 _ 8 Try.underlying31 hi hz0 hz1 hz2 rfl rfl (.tmp 61) (.tmp 63) rfl w.heap.size _ k ((Ls zs k).map E) rfl (hox.alloc _) _ _ 1 _ [E none] rfl (Reads.lit1 _ _ _ _) (by unfold maxLen; omega) (by omega) (by have := hbw.size; simp; omega) ?_; intro A8 n8 c8 w8 hn8 hc8 ho8 hb8; obtain ⟨ad8, hA8, hlast0⟩ := last_cell ho8.reads (by have := hn8.out; omega); subst hA8; have hlast : w8.cell? (ad8.add (n8 - 1)) = some (.float .f64 INF) := hlast0; clear hlast0; obtain ⟨hm1, hm2⟩ := tmod_bd1 q n8; have h81 : 1 ≤ n8 := (by have := hn8.out; omega); have h82 : n8 ≤ 201 := (by have := hn8.out; omega)))
        all_goals
          have hkc0 := hc8.out
          have HO8 : OE w8 w.heap.size 22 (.slice (some ad8) n8 c8) n8 ((L.map E).map (Value.float .f64)) := by rw [HLD.out, List.map_append]; exact ho8
          have HBW : Below w.heap.size w w8 := below_step (below_al hbw _) hb8 (Nat.le_refl _)
          have HRL : Reads w8 w8.heap.size 1 (some ad8) n8 ((L.map E).map (Value.float .f64)) := HO8.reads
          have HL8 : Hid (L.length = n8) := Lib.hid (by rw [HL8'.out, hn8.out])
          clear ho8
          have hpick : ∃ kk : Nat, kk ≤ n8 ∧ ((q.tmod (↑n8 + 1) < 0 ∧ q.tmod (↑n8 + 1) + ↑n8 + 1 = (kk : Int)) ∨ (¬ q.tmod (↑n8 + 1) < 0 ∧ q.tmod (↑n8 + 1) = (kk : Int))) := by
            by_cases e : q.tmod (↑n8 + 1) < 0
            · exact ⟨(q.tmod (↑n8 + 1) + ↑n8 + 1).toNat, by omega, .inl ⟨e, by omega⟩⟩
            · exact ⟨(q.tmod (↑n8 + 1)).toNat, by omega, .inr ⟨e, by omega⟩⟩
          obtain ⟨kk, hkk1, hpick⟩ := hpick
          have hkkc : kk ≤ c8 := by omega
          first
          | (have hneg : q.tmod (↑n8 + 1) < 0 := by assumption
             rcases hpick with ⟨_, hz⟩ | ⟨e, _⟩
             rotate_left
             exact absurd hneg e
             rw [hz])
          | (have hneg : ¬ q.tmod (↑n8 + 1) < 0 := by first | assumption | omega
             rcases hpick with ⟨e, _⟩ | ⟨_, hz⟩
             exact absurd e hneg
             rw [hz])
          clear hz hm1 hm2
          have hl1 : (L.take kk).length ≤ 201 := by simp only [List.length_take]; have := HL8.out; omega
          have hl2 : (L.drop kk).length ≤ 201 := by simp only [List.length_drop]; have := HL8.out; omega
          have hl3 : (L.drop kk ++ L.take kk).length ≤ 201 := by rw [List.length_append, List.length_take, List.length_drop]; have := HL8.out; omega
          have hl4 : L.length ≤ 201 := by have := HL8.out; omega
          have HPR := Lib.hid (show pathG 0 (((L.map E).drop kk) ++ ((L.map E).take kk)) = (INF, 0) by rw [← List.map_drop, ← List.map_take, ← List.map_append, path_E (rot_ok HLok.out kk) hl3, sumO_rot, hR.out])
          have HPT := Lib.hid (show pathG 0 ((L.map E).take kk) = (E (sumO (L.take kk)), 0) by rw [← List.map_take, path_E (fun o ho => HLok.out o (List.mem_of_mem_take ho)) hl1])
          have HPD := Lib.hid (show pathG 0 ((L.map E).drop kk) = (E (sumO (L.drop kk)), 0) by rw [← List.map_drop, path_E (fun o ho => HLok.out o (List.mem_of_mem_drop ho)) hl2])
          have HPS := Lib.hid (split_sum HLok.out hl4 kk)
          have hpe := HPS.out.1
          have hpv : pv (E (sumO (L.take kk))) (E (sumO (L.drop kk))) = INF := HPS.out.2.trans hR.out
          have hex := exL_E HLok.out hl4
          have HLT := all_lt HLok.out
          have HLR := rot_lt HLT kk
          have HLTT : ∀ x ∈ ((L.map E).take kk), x < W64 := fun x hx => HLT x (List.mem_of_mem_take hx)
          have HLTD : ∀ x ∈ ((L.map E).drop kk), x < W64 := fun x hx => HLT x (List.mem_of_mem_drop hx)
          have heq : (FloatKind.f64.format.order INF INF == some .eq) = true := by
            rw [← hR.out]; exact ord_self (E_le (sum_ok HLok.out hl4))
          have hlt1 := E_lt (sum_ok (l := L.take kk) (fun o ho => HLok.out o (List.mem_of_mem_take ho)) hl1)
          have hlt2 := E_lt (sum_ok (l := L.drop kk) (fun o ho => HLok.out o (List.mem_of_mem_drop ho)) hl2)
          clear hl1 hl2 hl3 hl4
          go_wp2_with (first
            | (go_at_call 16; (with_reducible refine (path_n (some ad8) n8 c8 (L.map E) w8 HRL HLT (by omega)).mono ?_); rw [HP.out]; rintro e w' ⟨rfl, rfl⟩))
          go_region_law (first
            | (refine step_append_oe _ (Value.float .f64) (fun _ => rfl) 31 22 i0 _ 8 Try.underlying31 hi hz0 hz1 hz2 rfl (by rfl) (.tmp 89) (.tmp 92) (by rfl) w8.heap.size _ 0 [] (by rfl) (OE.empty _ _ _ _) w8.heap.size _ _ _ ((L.map E).drop kk) (by rfl) ((HRL.cut1 hkk1 hkc0).below (by (repeat first | assumption | exact Below.refl _ _ | apply below_dr | apply below_al))) (by unfold maxLen; omega) (by omega) (by exact Below.size (B := w8.heap.size) (w := w8) (by (repeat first | assumption | exact Below.refl _ _ | apply below_dr | apply below_al))) ?_; intro A93 n93 c93 w93 hn93 hc93 ho93 hb93; have HB93 : Below w8.heap.size w8 w93 := below_step (by (repeat first | assumption | exact Below.refl _ _ | apply below_dr | apply below_al)) hb93 (Nat.le_refl _))
            | (refine step_append_oe _ (Value.float .f64) (fun _ => rfl) 31 22 i0 _ 8 Try.underlying31 hi hz0 hz1 hz2 rfl (by rfl) (.tmp 93) (.tmp 96) (by rfl) w8.heap.size _ n93 ((L.map E).drop kk) (by rfl) ho93 w8.heap.size _ _ _ ((L.map E).take kk) (by rfl) ((HRL.take1 hkk1).below (by (repeat first | assumption | exact Below.refl _ _ | apply below_dr | apply below_al))) (by unfold maxLen; have := hn93.out; omega) (by have := hn93.out; omega) (by exact HB93.size) ?_; intro A97 n97 c97 w97 hn97 hc97 ho97 hb97; have HB97 : Below w8.heap.size w8 w97 := below_step (by (repeat first | assumption | exact Below.refl _ _ | apply below_dr | apply below_al)) hb97 (Nat.le_refl _))
            | (go_simp; go_at_call 16; (with_reducible refine (path_n A97 n97 c97 (((L.map E).drop kk) ++ ((L.map E).take kk)) w97 ho97.reads HLR (by have := hn97.out; have := hn93.out; omega)).mono ?_); rw [HPR.out]; rintro e w' ⟨rfl, rfl⟩))
          all_goals
            have HRW := HRL.below HB97
            have HRC : Reads w97 w8.heap.size 1 (if c8 = kk then some ad8 else some (ad8.add kk)) (n8 - kk) (((L.map E).drop kk).map (Value.float .f64)) := HRW.cut1 hkk1 hkc0
            go_wp2_with (first
              | (go_at_call 16; (with_reducible refine (path_n (some ad8) kk c8 ((L.map E).take kk) w97 (HRW.take1 hkk1) HLTT (by omega)).mono ?_); rw [HPT.out]; rintro e w' ⟨rfl, rfl⟩)
              | (go_at_call 16; (with_reducible refine (path_n (if c8 = kk then some ad8 else some (ad8.add kk)) (n8 - kk) (c8 - kk) ((L.map E).drop kk) w97 HRC HLTD (by omega)).mono ?_); rw [HPD.out]; rintro e w' ⟨rfl, rfl⟩)
              | (go_at_call 11; refine (plus_any _ _ _ hlt1 hlt2).mono ?_; rintro e w' ⟨rfl, rfl⟩)
              | (go_at_call 17; refine (exact_n (some ad8) n8 c8 (L.map E) w97 HRW HLT).mono ?_; rintro e w' ⟨rfl, rfl⟩)
              | (go_at_call 14; refine (awake_any _).mono ?_; rintro e w' ⟨rfl, hb⟩))
            all_goals
              go_ret
              exact ⟨rfl, below_step (below_step HBW HB97 HBW.size) hb (below_step HBW HB97 HBW.size).size⟩
  
theorem fopExact_law (w : World) (A : Option Addr) (zs : List Int) (c : Nat) (hzs : IS w A zs c) (q : Int) (_ : (Lit.int .i64 q).wf = true) (inf : Bool) :
    Calls Try.prog 5 #[.slice A zs.length c, .int .i64 q, .bool inf] w fun e w' => e = .returned (.bool true) ∧ Below w.heap.size w w' := by
  by_cases hl : zs.length ≤ 200
  · exact exact_main w A zs c q inf hzs hl
  · have hl' : (200 : Int) < (zs.length : Int) := by omega
    go_enter Try.func5, Try.ntmps5
    go_wp2_with (go_at_call 14; refine (awake_any _).mono ?_; rintro e w' ⟨rfl, hb⟩)
    go_ret
    exact ⟨rfl, hb⟩

set_option maxRecDepth 100000 in
theorem fopExact_lifted (os : Os) (started : os.Started) (H : Type) (enc : TypeId × Value → H) :
    ReturnsInHanded {} Try.checked os 5 .any (Rows.fopExactSpec.pre6 enc Try.prog Try.f5 Rows.fopExactRow.domain false) (Rows.fopExactSpec.post enc Try.prog Try.f5 false true false false) := by
  refine returnsInHanded_of_change (C := Try.checked) own started (by kernel_rfl) Try.func5
    (ChangeSpec.witness6 (enc := enc) (C := Try.checked) false ⟨#[], #[.slice none 0 0, .int .i64 0, .bool false], []⟩ 8 (by kernel_rfl) (by kernel_rfl) (by kernel_rfl) (by kernel_rfl)) ?_
  intro W base args ds gs before hval0 hW hcnd _
  have hval : ∀ (j : Nat) t v, Try.f5.params[j]? = some t → args[j]? = some v → Value.okWide Try.prog W .any base t v := hval0
  have hW' := hW
  obtain ⟨p, q, hA0, hV, rfl, hfz, hnd⟩ := hW
  have hA : DataW.TrodAll enc Try.prog W 0 (fun _ => true) true Try.f5.params.toList args.toList ds p := hA0
  rw [Try.params5] at hA hval
  obtain ⟨v0, vs0, d0, ds0, p0, q0, hargs, rfl, rfl, h0, r0⟩ := trodAll_cons hA
  obtain ⟨v1, vs1, d1, ds1, p1, q1, rfl, rfl, rfl, h1, r1⟩ := trodAll_cons r0
  obtain ⟨v2, vs2, d2, ds2, p2, q2, rfl, rfl, rfl, h2, r2⟩ := trodAll_cons r1
  obtain ⟨rfl, rfl, rfl⟩ := trodAll_nil r2
  obtain rfl : args = #[v0, v1, v2] := by cases args; simp_all
  obtain ⟨rfl, rfl⟩ := trodVars_none hV
  simp only [List.append_nil] at hW'
  have hbl : ∀ x ∈ (p0 ++ (p1 ++ (p2)) : List MemPlace), x.block < W.heap.size := fun x hx => hW'.lt x hx
  have k0 := h0
  have l0 : ∀ x ∈ p0, x.block < W.heap.size := fun x hx => hbl x (by simp [hx])
  obtain ⟨A0, xs0, c0, rfl, g0⟩ := open_ints64 (hval 0 30 v0 rfl rfl) h0
  have k1 := h1
  have l1 : ∀ x ∈ p1, x.block < W.heap.size := fun x hx => hbl x (by simp [hx])
  obtain ⟨a1, rfl, e1, _, w1⟩ := open_int Try.underlying3 (hval 1 3 v1 rfl rfl) h1
  have k2 := h2
  have l2 : ∀ x ∈ p2, x.block < W.heap.size := fun x hx => hbl x (by simp [hx])
  obtain ⟨a2, rfl, e2, _⟩ := open_bool Try.underlying4 (hval 2 4 v2 rfl rfl) h2
  clear hA0 hval0
  refine (fopExact_law W A0 xs0 c0 g0 a1 w1 a2).mono fun e W2 ⟨he, hb⟩ => ?_
  subst he
  exact ⟨_, rfl, post_of_below (pa := p0 ++ (p1 ++ (p2++ []))) (pv := []) hW' (fun _ _ _ => trodAll_cons_mk (shut_bool Try.underlying4 _) trodAll_mk0) (fun sp hsp => (trodAll_cons_mk (trod_kept laidOut (by kernel_rfl) (of_decide_eq_true (by kernel_rfl)) k0 hb l0 (fun x hx => hsp x (by simp [hx]))) (trodAll_cons_mk (trod_kept laidOut (by kernel_rfl) (of_decide_eq_true (by kernel_rfl)) k1 hb l1 (fun x hx => hsp x (by simp [hx]))) (trodAll_cons_mk (trod_kept laidOut (by kernel_rfl) (of_decide_eq_true (by kernel_rfl)) k2 hb l2 (fun x hx => hsp x (by simp [hx]))) trodAll_mk0)))) (fun _ _ => rfl) (by simp) hb (ok_one (by kernel_rfl) rfl (okWide_bool_mk Try.underlying4 _))⟩

theorem fopExact_over : Rows.fopExactRow.holds Try.pinned (OpenSpec.ofChange Rows.fopExactSpec) :=
  OpenClaim.holds_of_wide 5 Try.f5 rfl rfl rfl rfl rfl rfl rfl ⟨rfl, rfl, rfl, rfl, rfl⟩ rfl rfl rfl rfl rfl (by kernel_rfl) Try.func5 (by kernel_rfl)
    (of_decide_eq_true (by kernel_rfl)) (by unfold Func.isWrapper; first | (rw [if_pos (by decide +kernel)]; kernel_rfl) | (rw [if_neg (by decide +kernel)]; exact ⟨rfl, rfl⟩))
    (fun os started H enc _ => fopExact_lifted os started H enc)

/-- THE STATEMENT. -/
theorem fopExact_holds : Rows.FopExactSaid :=
  fopExact_over
#print axioms fopExact_holds
end Go.Proofs.Ytlbakakfjcmldaa
