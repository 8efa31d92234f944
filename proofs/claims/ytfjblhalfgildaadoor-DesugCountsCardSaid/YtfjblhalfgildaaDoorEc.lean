/- The walks of 'letters', 'Fwd'. Condition: the path can be read. -/
import Derived.Test.YtfjblhalfgildaaDoorDl
import Derived.Test.YtfjblhalfgildaaDoorEa
namespace Go.Proofs.YtfjblhalfgildaaDoor.De
open Go.RowKit Go.Lib Na Go.PN Pa

/-- How many letters stand in a row. -/
def lettF : Fo → Int
  | .nil => 0
  | .cons k _ d _ _ r => ((if k = 2 then 1 else 0) + lettF d) + lettF r
theorem lettF_rng (f : Fo) : 0 ≤ lettF f ∧ lettF f ≤ f.sz := by
  induction f with
  | nil => exact ⟨Int.le_refl _, Int.le_refl _⟩
  | cons k l d mn mx r ih1 ih2 =>
    rw [lettF, Fo.sz]
    split <;> omega
theorem lettF_app (f g : Fo) : lettF (f.app g) = lettF f + lettF g := by
  induction f with
  | nil => rw [Fo.app, lettF]; omega
  | cons k l d mn mx r _ ih => rw [Fo.app, lettF, lettF, ih]; omega
theorem lettF_one (k : Int) (l : ByteArray) (d : Fo) (mn mx : Int) : lettF (.cons k l d mn mx .nil) = (if k = 2 then 1 else 0) + lettF d := by rw [lettF, lettF]; omega
set_option maxRecDepth 100000 in
set_option maxHeartbeats 8000000 in
theorem letters_n (n : Nat) : ∀ (a : Nd) (X : List Nat) (w : World), a.kids.sz < n → a.kids.sz ≤ 1000000 → a.ok w X → Calls Tryd.prog 7 #[a.v] w fun e w' => e = .returned (.int .i64 (lettF (a.fo .nil))) ∧ Below w.heap.size w w' := by
  induction n with
  | zero => intro a X w hn; omega
  | succ n ih =>
    intro a X w hn hmax hok
    obtain ⟨k, l, A, c, mn, mx, kids⟩ := a
    obtain ⟨hc, hc2, hat⟩ := hok
    unfold Nd.v
    simp only at hn hmax hc hc2 hat ⊢
    have HW := Lib.hid ((Below.refl _ w).alloc (Nat.le_refl _) (obj5 k l A kids.len c mn mx))
    have HN := Lib.hid hn
    have HA := Lib.hid hat
    have IH := Lib.hid ih
    have HMX := Lib.hid hmax
    obtain ⟨E, hE, hE1⟩ : ∃ E : Int, (if k = 2 then 1 else 0) = E ∧ (E = 0 ∨ E = 1) := ⟨_, rfl, by split <;> simp⟩
    have HE := Lib.hid (show lettF (.cons k l kids mn mx .nil) = E + lettF kids by rw [lettF_one, hE])
    have HEE := Lib.hid hE
    have hE0 : 0 ≤ E ∧ E ≤ 1 := by omega
    have HK := Lib.hid (show k = 2 ∧ E = 1 ∨ (k == 2) = false ∧ E = 0 from by
      by_cases h2 : k = 2
      · exact Or.inl ⟨h2, by rw [← hE, if_pos h2]⟩
      · exact Or.inr ⟨by rw [beq_eq_false_iff_ne]; exact h2, by rw [← hE, if_neg h2]⟩)
    obtain ⟨R, hR⟩ : ∃ R, lettF (.cons k l kids mn mx .nil) = R := ⟨_, rfl⟩
    rw [show lettF ((⟨k, l, A, c, mn, mx, kids⟩ : Nd).fo .nil) = R from hR]
    rw [hR] at HE
    clear hat hn ih hE hE1 hR HEE hmax
    rcases HK.out with ⟨hk, he⟩ | ⟨hk, he⟩
    · clear HK
      subst hk
      subst he
      clear hE0
      go_enter Tryd.func7, Tryd.ntmps7
      go_wp2_with fail
      go_loopw [3, 4] (fun ev iv wr => ∃ (q : Nat) (dn r : Fo) (e : Int), Hid (kids = dn.app r) ∧ Hid (dn.len = q) ∧ iv = .int .i64 q ∧ ev = .int .i64 e ∧ 0 ≤ e ∧ e ≤ 1000001 ∧ Hid (e = 1 + lettF dn) ∧ Hid (Below (w.heap.size + 1) (w.alloc (obj5 _ l A kids.len c mn mx)) wr)) (fun _ iv _ => kids.len - (RowKit.intOf iv).toNat)
      case atStart => exact ⟨0, .nil, kids, _, Lib.hid rfl, Lib.hid rfl, rfl, rfl, by decide, by decide, Lib.hid (by show (1 : Int) = 1 + lettF .nil; rfl), Lib.hid (Below.refl _ _)⟩
      case round =>
        obtain ⟨q, dn, r, e, hk2, hq, rfl, rfl, ho1, ho2, hlp, hb⟩ := hrel
        have hlen := Lib.hid (show kids.len = q + r.len by rw [hk2.out, Fo.app_len, hq.out])
        have hb0 := Lib.hid (box_below hb.out)
        obtain ⟨hx0, hx1, hx2, hx3, hx4⟩ := box_cells _ _ _ _ _ _ _ hb.out
        clear hx0 hx1 hx3 hx4
        cases r with
        | nil =>
          have hlt : ¬ (q : Int) < kids.len := by have := hlen.out; simp only [Fo.len] at this; omega
          have hdk : dn = kids := by have := hk2.out; rw [Fo.app_nil] at this; exact this.symm
          have hT := Lib.hid (show R = e by rw [HE.out, hlp.out, hdk])
          go_wp2_with fail
          go_ret
          exact ⟨by rw [hT.out]; rfl, hb0.out⟩
        | cons k1 l1 d1 mn1 mx1 r1 =>
          have hlt : (q : Int) < kids.len := by have := hlen.out; simp only [Fo.len] at this; omega
          have hq0 : (0 : Int) ≤ q := by omega
          have hk3 : kids = dn.app (.cons k1 l1 d1 mn1 mx1 r1) := hk2.out
          obtain ⟨b0, o0, rfl⟩ := at_shape HA.out (by have := hlen.out; simp only [Fo.len] at this; omega)
          have h3 := HA.out.below hb0.out
          rw [hk3] at h3
          obtain ⟨K1, c1, hcel, hc3, hc4, hat1⟩ := h3.nth hq.out
          obtain ⟨e0, e1, e2, e3, e4⟩ := hcel
          have hsz : d1.sz < n ∧ d1.sz ≤ 1000000 := by
            have h5 := congrArg Fo.sz hk3
            rw [Fo.app_sz] at h5
            have h6 := HN.out
            have h7 := HMX.out
            simp only [Fo.sz] at h5
            omega
          have HC := Lib.hid (IH.out ⟨k1, l1, K1, c1, mn1, mx1, d1⟩ X wr hsz.1 hsz.2 ⟨hc3, hc4, hat1⟩)
          unfold Nd.v at HC
          simp only at HC
          have hz := lettF_rng (.cons k1 l1 d1 mn1 mx1 .nil)
          have hz2 := lettF_rng dn
          have hszs := congrArg Fo.sz hk3
          rw [Fo.app_sz] at hszs
          have hm7 := HMX.out
          have hlo := hlp.out
          simp only [Fo.sz] at hszs hz
          have hkk := Lib.hid (show kids = (dn.app (.cons k1 l1 d1 mn1 mx1 .nil)).app r1 by rw [hk3, Fo.app_assoc]; rfl)
          have hqq := Lib.hid (show (dn.app (.cons k1 l1 d1 mn1 mx1 .nil)).len = q + 1 by rw [Fo.app_len, hq.out]; rfl)
          have HL1 := Lib.hid (show e + lettF (.cons k1 l1 d1 mn1 mx1 .nil) = 1 + lettF (dn.app (.cons k1 l1 d1 mn1 mx1 .nil)) by rw [lettF_app, hlo]; omega)
          have hbd : 0 ≤ e + lettF (.cons k1 l1 d1 mn1 mx1 .nil) ∧ e + lettF (.cons k1 l1 d1 mn1 mx1 .nil) ≤ 1000001 := by omega
          have hws := Lib.hid (show w.heap.size + 1 ≤ wr.heap.size by have := hb.out.size; simpa using this)
          clear hsz hat1 h3 hk3 hz hz2 hszs hm7 hlo
          generalize lettF (.cons k1 l1 d1 mn1 mx1 .nil) = z at *
          obtain ⟨hbd1, hbd2⟩ := hbd
          go_wp2_with (go_at_call 7; (with_reducible refine (HC.out).mono ?_); rintro e' w2 ⟨rfl, hb2⟩; have HB2 := Lib.hid hb2; clear hb2)
          exact ⟨⟨q + 1, _, r1, _, hkk, hqq, by go_num, rfl, hbd1, hbd2, HL1, Lib.hid (hb.out.trans (HB2.out.mono hws.out))⟩, by simp [RowKit.intOf] <;> omega⟩
    · clear HK
      subst he
      clear hE0
      go_enter Tryd.func7, Tryd.ntmps7
      go_wp2_with fail
      go_loopw [3, 4] (fun ev iv wr => ∃ (q : Nat) (dn r : Fo) (e : Int), Hid (kids = dn.app r) ∧ Hid (dn.len = q) ∧ iv = .int .i64 q ∧ ev = .int .i64 e ∧ 0 ≤ e ∧ e ≤ 1000001 ∧ Hid (e = 0 + lettF dn) ∧ Hid (Below (w.heap.size + 1) (w.alloc (obj5 _ l A kids.len c mn mx)) wr)) (fun _ iv _ => kids.len - (RowKit.intOf iv).toNat)
      case atStart => exact ⟨0, .nil, kids, _, Lib.hid rfl, Lib.hid rfl, rfl, rfl, by decide, by decide, Lib.hid (by show (0 : Int) = 0 + lettF .nil; rfl), Lib.hid (Below.refl _ _)⟩
      case round =>
        obtain ⟨q, dn, r, e, hk2, hq, rfl, rfl, ho1, ho2, hlp, hb⟩ := hrel
        have hlen := Lib.hid (show kids.len = q + r.len by rw [hk2.out, Fo.app_len, hq.out])
        have hb0 := Lib.hid (box_below hb.out)
        obtain ⟨hx0, hx1, hx2, hx3, hx4⟩ := box_cells _ _ _ _ _ _ _ hb.out
        clear hx0 hx1 hx3 hx4
        cases r with
        | nil =>
          have hlt : ¬ (q : Int) < kids.len := by have := hlen.out; simp only [Fo.len] at this; omega
          have hdk : dn = kids := by have := hk2.out; rw [Fo.app_nil] at this; exact this.symm
          have hT := Lib.hid (show R = e by rw [HE.out, hlp.out, hdk])
          go_wp2_with fail
          go_ret
          exact ⟨by rw [hT.out]; rfl, hb0.out⟩
        | cons k1 l1 d1 mn1 mx1 r1 =>
          have hlt : (q : Int) < kids.len := by have := hlen.out; simp only [Fo.len] at this; omega
          have hq0 : (0 : Int) ≤ q := by omega
          have hk3 : kids = dn.app (.cons k1 l1 d1 mn1 mx1 r1) := hk2.out
          obtain ⟨b0, o0, rfl⟩ := at_shape HA.out (by have := hlen.out; simp only [Fo.len] at this; omega)
          have h3 := HA.out.below hb0.out
          rw [hk3] at h3
          obtain ⟨K1, c1, hcel, hc3, hc4, hat1⟩ := h3.nth hq.out
          obtain ⟨e0, e1, e2, e3, e4⟩ := hcel
          have hsz : d1.sz < n ∧ d1.sz ≤ 1000000 := by
            have h5 := congrArg Fo.sz hk3
            rw [Fo.app_sz] at h5
            have h6 := HN.out
            have h7 := HMX.out
            simp only [Fo.sz] at h5
            omega
          have HC := Lib.hid (IH.out ⟨k1, l1, K1, c1, mn1, mx1, d1⟩ X wr hsz.1 hsz.2 ⟨hc3, hc4, hat1⟩)
          unfold Nd.v at HC
          simp only at HC
          have hz := lettF_rng (.cons k1 l1 d1 mn1 mx1 .nil)
          have hz2 := lettF_rng dn
          have hszs := congrArg Fo.sz hk3
          rw [Fo.app_sz] at hszs
          have hm7 := HMX.out
          have hlo := hlp.out
          simp only [Fo.sz] at hszs hz
          have hkk := Lib.hid (show kids = (dn.app (.cons k1 l1 d1 mn1 mx1 .nil)).app r1 by rw [hk3, Fo.app_assoc]; rfl)
          have hqq := Lib.hid (show (dn.app (.cons k1 l1 d1 mn1 mx1 .nil)).len = q + 1 by rw [Fo.app_len, hq.out]; rfl)
          have HL1 := Lib.hid (show e + lettF (.cons k1 l1 d1 mn1 mx1 .nil) = 0 + lettF (dn.app (.cons k1 l1 d1 mn1 mx1 .nil)) by rw [lettF_app, hlo]; omega)
          have hbd : 0 ≤ e + lettF (.cons k1 l1 d1 mn1 mx1 .nil) ∧ e + lettF (.cons k1 l1 d1 mn1 mx1 .nil) ≤ 1000001 := by omega
          have hws := Lib.hid (show w.heap.size + 1 ≤ wr.heap.size by have := hb.out.size; simpa using this)
          clear hsz hat1 h3 hk3 hz hz2 hszs hm7 hlo
          generalize lettF (.cons k1 l1 d1 mn1 mx1 .nil) = z at *
          obtain ⟨hbd1, hbd2⟩ := hbd
          go_wp2_with (go_at_call 7; (with_reducible refine (HC.out).mono ?_); rintro e' w2 ⟨rfl, hb2⟩; have HB2 := Lib.hid hb2; clear hb2)
          exact ⟨⟨q + 1, _, r1, _, hkk, hqq, by go_num, rfl, hbd1, hbd2, HL1, Lib.hid (hb.out.trans (HB2.out.mono hws.out))⟩, by simp [RowKit.intOf] <;> omega⟩
theorem fwd_any (s : ByteArray) (w : World) : Calls Tryd.prog 6 #[.string s] w fun e w' => e = .returned (.agg #[.int .i64 2, .string s, .slice none 0 0, .int .i64 0, .int .i64 0]) ∧ Below w.heap.size w w' := by
  go_enter Tryd.func6, Tryd.ntmps6
  go_wp2_with fail
  exact bodyPost_ret (v := .agg #[.int .i64 2, .string s, .slice none 0 0, .int .i64 0, .int .i64 0]) (by simp [results, Tryd.results6, go_sem]) rfl ⟨rfl, (Below.refl _ w).alloc (Nat.le_refl _) _⟩
end Go.Proofs.YtfjblhalfgildaaDoor.De

/- The law DesugCounts, walked. Condition: the library's two errors can be read. -/
namespace Go.Proofs.YtfjblhalfgildaaDoor.De
open Go.RowKit Go.Lib Na Go.PN Pa

def nullF : Fo → Bool
  | .nil => false
  | .cons k l d mn mx _ => NullB k l d mn mx
theorem key_fin : ∀ a b : Fin 9, 1 ≤ b.val → a.val ≤ b.val → checkE 9 ⟨#[]⟩ awF a.val b.val = 0 ∧ checkE 9 ⟨#[]⟩ awF a.val (-1) = 0 ∧ lettF (pl1 9 ⟨#[]⟩ (plL awF) a.val b.val) = b.val ∧ lettF (pl1 9 ⟨#[]⟩ (plL awF) a.val (-1)) = a.val + 1 ∧ nullF (pl1 9 ⟨#[]⟩ (plL awF) a.val b.val) = decide ((a.val : Int) = 0) ∧ (pl1 9 ⟨#[]⟩ (plL awF) a.val b.val).sz ≤ 1000 ∧ (pl1 9 ⟨#[]⟩ (plL awF) a.val (-1)).sz ≤ 1000 := by decide +kernel
theorem key (a b : Nat) (ha : a < 9) (hb : b < 9) (h1 : 1 ≤ b) (h2 : a ≤ b) : checkE 9 ⟨#[]⟩ awF a b = 0 ∧ checkE 9 ⟨#[]⟩ awF a (-1) = 0 ∧ lettF (pl1 9 ⟨#[]⟩ (plL awF) a b) = b ∧ lettF (pl1 9 ⟨#[]⟩ (plL awF) a (-1)) = a + 1 ∧ nullF (pl1 9 ⟨#[]⟩ (plL awF) a b) = decide ((a : Int) = 0) ∧ (pl1 9 ⟨#[]⟩ (plL awF) a b).sz ≤ 1000 ∧ (pl1 9 ⟨#[]⟩ (plL awF) a (-1)).sz ≤ 1000 := key_fin ⟨a, ha⟩ ⟨b, hb⟩ h1 h2
/-- The bounds in a plain path are nought. -/
theorem Bd.app2 {f g : Fo} : Bd (f.app g) ↔ Bd f ∧ Bd g := by
  induction f with
  | nil => simp [Fo.app, Bd]
  | cons k l d mn mx r _ ih => simp only [Fo.app, Bd, ih]; exact ⟨fun ⟨a, b, c, d, e⟩ => ⟨⟨a, b, c, d⟩, e⟩, fun ⟨⟨a, b, c, d⟩, e⟩ => ⟨a, b, c, d, e⟩⟩
theorem bd_zero {k : Int} {l : ByteArray} {d r : Fo} (hd : Bd d) (hr : Bd r) : Bd (.cons k l d 0 0 r) := ⟨by omega, by omega, hd, hr⟩
theorem bd_head {f : Fo} (h : Bd f) : Bd (headF f) := by
  cases f with
  | nil => trivial
  | cons => exact ⟨h.1, h.2.1, h.2.2.1, trivial⟩
theorem bd_row {K : Int} {f : Fo} (h : Bd f) : Bd (rowF K f) := by
  induction f with
  | nil => exact bd_zero trivial trivial
  | cons k l d mn mx r _ ih =>
    rw [rowF]
    split
    · exact ⟨h.1, h.2.1, h.2.2.1, trivial⟩
    · exact bd_zero (Bd.app2.2 ⟨⟨h.1, h.2.1, h.2.2.1, trivial⟩, ih h.2.2.2⟩) trivial
theorem bd_rept {n : Nat} {f : Fo} (h : Bd f) : Bd (rept n f) := by
  induction n with
  | zero => trivial
  | succ n ih => exact Bd.app2.2 ⟨h, ih⟩
theorem bd_tail {n : Nat} {f : Fo} (h : Bd f) : Bd (tailF n f) := by
  induction n with
  | zero => exact bd_zero (Bd.app2.2 ⟨bd_zero trivial trivial, h⟩) trivial
  | succ n ih => exact bd_zero (Bd.app2.2 ⟨bd_zero trivial trivial, bd_zero (Bd.app2.2 ⟨h, ih⟩) trivial⟩) trivial
theorem bd_pl1 {k : Int} {l : ByteArray} {L : Fo} {mn mx : Int} (h : Bd L) : Bd (pl1 k l L mn mx) := by
  have hh := bd_head h
  unfold De.pl1
  repeat' split
  · exact bd_zero trivial trivial
  · exact bd_row h
  · exact bd_zero hh trivial
  · exact bd_zero (Bd.app2.2 ⟨hh, bd_zero hh trivial⟩) trivial
  · exact bd_zero (Bd.app2.2 ⟨bd_zero trivial trivial, hh⟩) trivial
  · refine bd_row (Bd.app2.2 ⟨bd_rept hh, ?_⟩)
    split
    · exact bd_zero hh trivial
    · split
      · exact bd_tail hh
      · trivial
  · exact bd_zero trivial trivial
theorem bd_plL (f : Fo) : Bd (plL f) := by
  induction f with
  | nil => trivial
  | cons k l d mn mx r ih1 ih2 => exact Bd.app2.2 ⟨bd_pl1 ih1, ih2⟩
theorem plain_call (lo hi : Int) (h : checkE 9 ⟨#[]⟩ awF lo hi = 0) (hl : -9223372036854775808 ≤ lo ∧ lo ≤ 9223372036854775807) (hh : -9223372036854775808 ≤ hi ∧ hi ≤ 9223372036854775807) (w : World) :
    Calls Tryd.prog 5 #[.agg #[.int .i64 9, .string ⟨#[]⟩, .slice (some ⟨w.heap.size, 0, none⟩) 1 1, .int .i64 lo, .int .i64 hi]] (w.alloc (obj5 2 ⟨#[97]⟩ none 0 0 0 0)) (PlainP (w.alloc (obj5 2 ⟨#[97]⟩ none 0 0 0 0)) [] (pl1 9 ⟨#[]⟩ (plL awF) lo hi, 0)) := by
  have h1 := Plain_any ⟨9, ⟨#[]⟩, some ⟨w.heap.size, 0, none⟩, 1, lo, hi, awF⟩ [] (w.alloc (obj5 2 ⟨#[97]⟩ none 0 0 0 0)) ⟨Nat.le_refl _, Nat.le_of_ble_eq_true rfl, at_box (Bx.new w (.int .i64 2) (.string ⟨#[97]⟩) (.slice none 0 0) (.int .i64 0) (.int .i64 0) 25) (by simp) ⟨Nat.le_refl _, Nat.zero_le _, trivial⟩⟩ ⟨hl, hh, ⟨by omega, by omega, trivial, trivial⟩, trivial⟩ (fun x hx => by cases hx)
  rw [show plainR (⟨9, ⟨#[]⟩, some ⟨w.heap.size, 0, none⟩, 1, lo, hi, awF⟩ : Nd).k _ _ _ _ = _ from if_pos h] at h1
  exact h1
set_option maxRecDepth 100000 in
set_option maxHeartbeats 16000000 in
theorem desugCounts_law (lo hi : Int) (w : World) (hG : ErG w) : Calls Tryd.prog 3 #[.int .i64 lo, .int .i64 hi] w fun e w' => e = .returned (.bool true) ∧ Below w.heap.size w w' := by
  have HA := Lib.hid (fun (w1 : World) (hb : Below w.heap.size w w1) => awake_any w1 (hG.below hb))
  clear hG
  by_cases h0 : lo < 0
  · have t0 : decide (lo < 0) = true := decide_eq_true h0
    go_enter Tryd.func3, Tryd.ntmps3
    go_wp2_with (go_at_call 4; (with_reducible refine (HA.out _ (Below.refl _ _)).mono ?_); rintro e w2 ⟨rfl, hb2⟩)
    go_ret
    exact ⟨rfl, hb2⟩
  by_cases h1 : 8 < lo
  · have t0 : decide (lo < 0) = false := decide_eq_false h0
    have t1 : decide (lo > 8) = true := decide_eq_true h1
    go_enter Tryd.func3, Tryd.ntmps3
    go_wp2_with (go_at_call 4; (with_reducible refine (HA.out _ (Below.refl _ _)).mono ?_); rintro e w2 ⟨rfl, hb2⟩)
    go_ret
    exact ⟨rfl, hb2⟩
  by_cases h2 : hi < 1
  · have t0 : decide (lo < 0) = false := decide_eq_false h0
    have t1 : decide (lo > 8) = false := decide_eq_false h1
    have t2 : decide (hi < 1) = true := decide_eq_true h2
    go_enter Tryd.func3, Tryd.ntmps3
    go_wp2_with (go_at_call 4; (with_reducible refine (HA.out _ (Below.refl _ _)).mono ?_); rintro e w2 ⟨rfl, hb2⟩)
    go_ret
    exact ⟨rfl, hb2⟩
  by_cases h3 : 8 < hi
  · have t0 : decide (lo < 0) = false := decide_eq_false h0
    have t1 : decide (lo > 8) = false := decide_eq_false h1
    have t2 : decide (hi < 1) = false := decide_eq_false h2
    have t3 : decide (hi > 8) = true := decide_eq_true h3
    go_enter Tryd.func3, Tryd.ntmps3
    go_wp2_with (go_at_call 4; (with_reducible refine (HA.out _ (Below.refl _ _)).mono ?_); rintro e w2 ⟨rfl, hb2⟩)
    go_ret
    exact ⟨rfl, hb2⟩
  by_cases h4 : hi < lo
  · have t0 : decide (lo < 0) = false := decide_eq_false h0
    have t1 : decide (lo > 8) = false := decide_eq_false h1
    have t2 : decide (hi < 1) = false := decide_eq_false h2
    have t3 : decide (hi > 8) = false := decide_eq_false h3
    have t4 : decide (hi < lo) = true := decide_eq_true h4
    go_enter Tryd.func3, Tryd.ntmps3
    go_wp2_with (go_at_call 4; (with_reducible refine (HA.out _ (Below.refl _ _)).mono ?_); rintro e w2 ⟨rfl, hb2⟩)
    go_ret
    exact ⟨rfl, hb2⟩
  have t0 : decide (lo < 0) = false := decide_eq_false h0
  have t1 : decide (lo > 8) = false := decide_eq_false h1
  have t2 : decide (hi < 1) = false := decide_eq_false h2
  have t3 : decide (hi > 8) = false := decide_eq_false h3
  have t4 : decide (hi < lo) = false := decide_eq_false h4
  obtain ⟨a, rfl⟩ := Int.eq_ofNat_of_zero_le (show 0 ≤ lo by omega)
  obtain ⟨b, rfl⟩ := Int.eq_ofNat_of_zero_le (show 0 ≤ hi by omega)
  obtain ⟨k1, k2, k3, k4, k5, k6, k7⟩ := key a b (by omega) (by omega) (by omega) (by omega)
  have HP1 := Lib.hid (fun w => plain_call (a : Int) (b : Int) k1 (by omega) (by omega) w)
  have HP2 := Lib.hid (fun w => plain_call (a : Int) (-1) k2 (by omega) (by omega) w)
  have HF := Lib.hid (fun w => fwd_any ⟨#[97]⟩ w)
  have HL1 := Lib.hid k3
  have HL2 := Lib.hid k4
  have HNU := Lib.hid k5
  have HS1 := Lib.hid k6
  have HS2 := Lib.hid k7
  have HBX := Lib.hid (show Bd (pl1 9 ⟨#[]⟩ (plL awF) (a : Int) (b : Int)) from bd_pl1 (bd_plL _))
  have t4n : decide (b < a) = false := decide_eq_false (by omega)
  have t4m : ¬ b < a := by omega
  have ha8 : (a : Int) ≤ 8 := by omega
  have hb8 : (b : Int) ≤ 8 := by omega
  clear k1 k2 k3 k4 k5 k6 k7 h0 h1 h2 h3 h4
  obtain ⟨XF, hXF⟩ : ∃ XF, pl1 9 ⟨#[]⟩ (plL awF) (a : Int) (b : Int) = XF := ⟨_, rfl⟩
  obtain ⟨YF, hYF⟩ : ∃ YF, pl1 9 ⟨#[]⟩ (plL awF) (a : Int) (-1) = YF := ⟨_, rfl⟩
  rw [hXF] at HP1 HL1 HNU HS1 HBX
  rw [hYF] at HP2 HL2 HS2
  clear hXF hYF
  go_enter Tryd.func3, Tryd.ntmps3
  go_wp2_with (go_at_call 6; (with_reducible refine (HF.out _).mono ?_); rintro e w1 ⟨rfl, hb1⟩; have HB1 := Lib.hid hb1; clear hb1; refine Hid.out ?_)
  refine Lib.hid ?_
  go_wp2_with (go_at_call 5; (with_reducible refine (HP1.out _).mono ?_); rintro e w2 ⟨⟨k2, l2, A2, c2, mn2, mx2, d2⟩, rfl, hfo2, hok2, hb2⟩; have HF2 := Lib.hid hfo2; have HO2 := Lib.hid hok2; have HB2 := Lib.hid ((HB1.out.alloc HB1.out.size (obj5 2 ⟨#[97]⟩ none 0 0 0 0)).trans (hb2.mono (HB1.out.alloc HB1.out.size _).size)); clear hfo2 hok2 hb2; refine Hid.out ?_)
  refine Lib.hid ?_
  have HX := Lib.hid (Bx.new w2 (.int .i64 k2) (.string l2) (.slice A2 d2.len c2) (.int .i64 mn2) (.int .i64 mx2) 25)
  have HB3 := Lib.hid (HB2.out.alloc HB2.out.size (obj5 k2 l2 A2 d2.len c2 mn2 mx2))
  have HO3 := Lib.hid (HO2.out.al (obj5 k2 l2 A2 d2.len c2 mn2 mx2))
  go_wp2_with (go_at_call 6; (with_reducible refine (HF.out _).mono ?_); rintro e w4 ⟨rfl, hb4⟩; have HX4 := Lib.hid (HX.out.below hb4); have HO4 := Lib.hid (HO3.out.below hb4); have HB4 := Lib.hid (bt HB3.out hb4 HB3.out.size); clear hb4; refine Hid.out ?_)
  refine Lib.hid ?_
  go_wp2_with (go_at_call 5; (with_reducible refine (HP2.out _).mono ?_); rintro e w5 ⟨⟨k5, l5, A5, c5, mn5, mx5, d5⟩, rfl, hfo5, hok5, hb5⟩; have HF5 := Lib.hid hfo5; have HO5 := Lib.hid hok5; have HX5 := Lib.hid ((HX4.out.al (obj5 2 ⟨#[97]⟩ none 0 0 0 0)).below hb5); have HOX5 := Lib.hid ((HO4.out.al (obj5 2 ⟨#[97]⟩ none 0 0 0 0)).below hb5); have HB5 := Lib.hid ((HB4.out.alloc HB4.out.size (obj5 2 ⟨#[97]⟩ none 0 0 0 0)).trans (hb5.mono (HB4.out.alloc HB4.out.size _).size)); clear hfo5 hok5 hb5; refine Hid.out ?_)
  refine Lib.hid ?_
  have HY := Lib.hid (Bx.new w5 (.int .i64 k5) (.string l5) (.slice A5 d5.len c5) (.int .i64 mn5) (.int .i64 mx5) 25)
  have HX6 := Lib.hid (HX5.out.al (obj5 k5 l5 A5 d5.len c5 mn5 mx5))
  have HB6 := Lib.hid (HB5.out.alloc HB5.out.size (obj5 k5 l5 A5 d5.len c5 mn5 mx5))
  have HLX := Lib.hid (show ∀ w6, Below w5.heap.size w5 w6 → Calls Tryd.prog 7 #[.agg #[.int .i64 k2, .string l2, .slice A2 d2.len c2, .int .i64 mn2, .int .i64 mx2]] w6 fun e w' => e = .returned (.int .i64 b) ∧ Below w6.heap.size w6 w' from fun w6 hb => by
    have h := letters_n (d2.sz + 1) ⟨k2, l2, A2, c2, mn2, mx2, d2⟩ [] w6 (Nat.lt_succ_self _) (by have h1 := HS1.out; rw [← HF2.out] at h1; simp only [Nd.fo, Fo.sz] at h1; show d2.sz ≤ _; omega) (HOX5.out.below hb)
    rw [HF2.out, HL1.out] at h
    exact h)
  have HLY := Lib.hid (show ∀ w6, Below w5.heap.size w5 w6 → Calls Tryd.prog 7 #[.agg #[.int .i64 k5, .string l5, .slice A5 d5.len c5, .int .i64 mn5, .int .i64 mx5]] w6 fun e w' => e = .returned (.int .i64 ((a : Int) + 1)) ∧ Below w6.heap.size w6 w' from fun w6 hb => by
    have h := letters_n (d5.sz + 1) ⟨k5, l5, A5, c5, mn5, mx5, d5⟩ [] w6 (Nat.lt_succ_self _) (by have h1 := HS2.out; rw [← HF5.out] at h1; simp only [Nd.fo, Fo.sz] at h1; show d5.sz ≤ _; omega) (HO5.out.below hb)
    rw [HF5.out, HL2.out] at h
    exact h)
  have HNX := Lib.hid (show ∀ w6, Below w5.heap.size w5 w6 → Calls Tryd.prog 8 #[.agg #[.int .i64 k2, .string l2, .slice A2 d2.len c2, .int .i64 mn2, .int .i64 mx2]] w6 fun e w' => e = .returned (.bool (decide ((a : Int) = 0))) ∧ Below w6.heap.size w6 w' from fun w6 hb => by
    have h := Nullable_any ⟨k2, l2, A2, c2, mn2, mx2, d2⟩ [] w6 (HOX5.out.below hb) (by rw [HF2.out]; exact HBX.out)
    have h1 := HNU.out
    rw [← HF2.out] at h1
    rw [show NullB (⟨k2, l2, A2, c2, mn2, mx2, d2⟩ : Nd).k _ _ _ _ = _ from h1] at h
    exact h)
  have HB56 := Lib.hid ((Below.refl _ w5).alloc (Nat.le_refl _) (obj5 k5 l5 A5 d5.len c5 mn5 mx5))
  have te : ((b : Int) == (b : Int)) = true := beq_self_eq_true _
  have te2 : ((a : Int) + 1 == (a : Int) + 1) = true := beq_self_eq_true _
  obtain ⟨ZB, hZB⟩ : ∃ ZB : Bool, decide ((a : Int) = 0) = ZB := ⟨_, rfl⟩
  have tz : ((a : Int) == 0) = ZB := by rw [← hZB]; cases hq : (a : Int) == 0 <;> simp_all
  rw [hZB] at HNX
  clear hZB
  cases ZB
  all_goals
    obtain ⟨⟨x0, x1, x2, x3, x4⟩, y0, y1, y2, y3, y4⟩ := bx_all HX6.out
    go_wp2_with (go_at_call 7; (with_reducible refine (HLX.out _ HB56.out).mono ?_); rintro e w7 ⟨rfl, hb7⟩; have HX7 := Lib.hid (HX6.out.below hb7); have HY7 := Lib.hid (HY.out.below hb7); have HB7 := Lib.hid (bt HB56.out hb7 HB56.out.size); clear hb7 x0 x1 x2 x3 x4 y0 y1 y2 y3 y4; refine Hid.out ?_)
    refine Lib.hid ?_
    obtain ⟨⟨x0, x1, x2, x3, x4⟩, y0, y1, y2, y3, y4⟩ := bx_all HX7.out
    obtain ⟨⟨p0, p1, p2, p3, p4⟩, q0, q1, q2, q3, q4⟩ := bx_all HY7.out
    go_wp2_with (first
      | (go_at_call 7; (with_reducible refine (HLY.out _ HB7.out).mono ?_); rintro e w8 ⟨rfl, hb8⟩; have HX8 := Lib.hid (HX7.out.below hb8); have HB8 := Lib.hid (bt HB7.out hb8 HB7.out.size); obtain ⟨⟨r0, r1, r2, r3, r4⟩, s0, s1, s2, s3, s4⟩ := bx_all HX8.out; clear hb8)
      | (go_at_call 8; (with_reducible refine (HNX.out _ HB8.out).mono ?_); rintro e w9 ⟨rfl, hb9⟩; have HB9 := Lib.hid (bt HB8.out hb9 HB8.out.size); have HB9w := Lib.hid (bt HB5.out HB9.out HB5.out.size); clear hb9)
      | (go_at_call 4; (with_reducible refine (HA.out _ HB9w.out).mono ?_); rintro e w10 ⟨rfl, hb10⟩; have HB10 := Lib.hid (bt HB9w.out hb10 HB9w.out.size); clear hb10))
    go_ret
    exact ⟨rfl, HB10.out⟩
end Go.Proofs.YtfjblhalfgildaaDoor.De
