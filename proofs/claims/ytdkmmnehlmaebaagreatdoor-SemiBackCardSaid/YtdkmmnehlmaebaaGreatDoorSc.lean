
/- A value in a variable's own cells; what a walk answers; the walks of 'both', 'least', 'whole', 'Zero', 'One'. Conditions: a value's digits can be read. -/
import Derived.Test.YtdkmmnehlmaebaaGreatDoorSb
namespace Go.Proofs.YtdkmmnehlmaebaaGreatDoor.Se
open Go.RowKit Go.NT Go.FT Go.FX Go.Lib Na

theorem below_go {w w1 w2 : World} (h : Below w.heap.size w w1) (k : Below w1.heap.size w1 w2) : Below w.heap.size w w2 := h.trans (k.mono h.size)
/-- What counts of a value. -/
structure Con where
  s : Int
  m : Option Int
  lv : Int
  x : Nat
def SV.con (a : SV) : Con := ⟨a.s, mean a.b a.xs, a.lv, a.x⟩
def SV.canon (a : SV) : Prop := Norm a.xs ∧ (a.b = true → a.xs = [])
/-- A value answered. -/
def SR (w w' : World) (e : Ending) (C : Con) (N : Nat) : Prop :=
  ∃ r : SV, e = .returned r.v ∧ r.ok w' ∧ Hid (r.con = C) ∧ Hid r.canon ∧ Hid (r.n ≤ N) ∧ Below w.heap.size w w'
/-- A value answered, and why none is. -/
def SP (w w' : World) (e : Ending) (C : Con) (k : Int) (N : Nat) : Prop :=
  ∃ r : SV, e = .returned (.tuple #[r.v, .int .i64 k]) ∧ r.ok w' ∧ Hid (r.con = C) ∧ Hid r.canon ∧ Hid (r.n ≤ N) ∧ Below w.heap.size w w'
/-- The value with one field alone. -/
@[reducible] def SV.lev (s lv : Int) : SV := ⟨s, false, none, 0, 0, [], lv, 0⟩
@[reducible] def SV.dbl (s : Int) (x : Nat) : SV := ⟨s, false, none, 0, 0, [], 0, x⟩
@[reducible] def SV.nat (s : Int) (b : Bool) (A : Option Addr) (n c : Nat) (xs : List Int) : SV := ⟨s, b, A, n, c, xs, 0, 0⟩
theorem lev_ok (s lv : Int) (w : World) : (SV.lev s lv).ok w := ⟨NV.nil w, by show 0 < W64; decide⟩
theorem dbl_ok (s : Int) (x : Nat) (w : World) (h : x < W64) : (SV.dbl s x).ok w := ⟨NV.nil w, h⟩
theorem lev_canon (s lv : Int) : (SV.lev s lv).canon := ⟨Norm.nil, fun _ => rfl⟩
theorem dbl_canon (s : Int) (x : Nat) : (SV.dbl s x).canon := ⟨Norm.nil, fun _ => rfl⟩
def zeroC (s : Int) : Con := ⟨s, if s == 3 then none else some 0, 0, if s == 6 then INF else 0⟩
def oneC (s : Int) : Con := ⟨s, if s == 1 then some 1 else some 0, if levB s then topV s else 0, if s == 5 then ONE else 0⟩
def noneC : Con := ⟨0, some 0, 0, 0⟩

/-- A value in a variable's own cells. -/
def Five (w : World) (g : Nat) (a : SV) : Prop :=
  w.cell? ⟨g, 0, none⟩ = some (.int .i64 a.s) ∧ w.cell? ⟨g, 1, none⟩ = some (.bool a.b) ∧ w.cell? ⟨g, 2, none⟩ = some (.slice a.A a.n a.c) ∧ w.cell? ⟨g, 3, none⟩ = some (.int .i64 a.lv) ∧ w.cell? ⟨g, 4, none⟩ = some (.float .f64 a.x) ∧ g < w.heap.size ∧ a.ok w
section
variable {w w' : World} {g B : Nat} {a b c : SV}
theorem Five.to (h : Five w g a) (hb : Below B w w') (hB : g < B) (ho : a.ok w') : Five w' g a :=
  ⟨(hb.cell (p := ⟨g, 0, none⟩) hB).trans h.1, (hb.cell (p := ⟨g, 1, none⟩) hB).trans h.2.1, (hb.cell (p := ⟨g, 2, none⟩) hB).trans h.2.2.1, (hb.cell (p := ⟨g, 3, none⟩) hB).trans h.2.2.2.1, (hb.cell (p := ⟨g, 4, none⟩) hB).trans h.2.2.2.2.1, Nat.lt_of_lt_of_le h.2.2.2.2.2.1 hb.size, ho⟩
theorem Five.go (h : Five w g a) (hb : Below w.heap.size w w') : Five w' g a := h.to hb h.2.2.2.2.2.1 (h.2.2.2.2.2.2.below hb)
theorem Five.ok (h : Five w g a) : a.ok w := h.2.2.2.2.2.2
theorem Five.al (h : Five w g a) (o : Obj) : Five (w.alloc o) g a := h.go (below_al (Below.refl _ _) o)
theorem SV.ok.al (h : a.ok w) (o : Obj) : a.ok (w.alloc o) := h.below (below_al (Below.refl _ _) o)
theorem SV.ok.drew (h : a.ok w) : a.ok w.drew := h.below (below_dr (Below.refl _ _))
theorem Five.drew (h : Five w g a) : Five w.drew g a := ⟨h.1, h.2.1, h.2.2.1, h.2.2.2.1, h.2.2.2.2.1, h.2.2.2.2.2.1, h.ok.drew⟩
end
theorem five_new (w : World) (a : SV) (h : a.ok w) : Five (w.alloc (.cells #[.int .i64 a.s, .bool a.b, .slice a.A a.n a.c, .int .i64 a.lv, .float .f64 a.x] 27)) w.heap.size a :=
  ⟨by go_simp, by go_simp, by go_simp, by go_simp, by go_simp, by simp, h.al _⟩

/-- No cell of a block holds a digit. -/
def VB (w : World) (g : Nat) : Prop := ∀ k z, w.cell? ⟨g, k, none⟩ ≠ some (.int .u32 z)
def notDigit : Value → Bool
  | .int .u32 _ => false
  | _ => true
theorem VB.to {w w' : World} {g B : Nat} (h : VB w g) (hb : Below B w w') (hB : g < B) : VB w' g := fun k z => by
  rw [hb.cell (p := ⟨g, k, none⟩) hB]; exact h k z
theorem cell_back {w : World} {a : Addr} {u v : Value} (h : (w.setCell a v).cell? a = some u) : u = v := by
  cases hc : w.cell? a with
  | some z => rw [World.cell?_setCell_same w a v hc] at h; injection h with h; exact h.symm
  | none =>
    unfold World.cell? at hc
    simp only [World.setCell, World.cell?, Array.getElem?_modify, ↓reduceIte] at h
    cases hb : w.heap[a.block]? with
    | none => rw [hb] at h; cases h
    | some o =>
      rw [hb] at h hc
      cases o with
      | cells c e f =>
        simp only [Option.map_some] at h hc
        cases hs : a.spot.isSome with
        | true => rw [hs] at h; cases h
        | false =>
          rw [hs] at h hc
          have hc2 : c[a.off]? = none := hc
          have h2 : (c.setIfInBounds a.off v)[a.off]? = some u := h
          have hl := Array.getElem?_eq_none_iff.1 hc2
          rw [Array.getElem?_eq_none (by rw [Array.size_setIfInBounds]; exact hl)] at h2
          cases h2
      | _ => simp at h
theorem VB.set {w : World} {g : Nat} (h : VB w g) (k : Nat) {u : Value} (hu : notDigit u = true) : VB (w.setCell ⟨g, k, none⟩ u) g := fun j z hj => by
  by_cases e : j = k
  · subst e
    have := cell_back hj
    subst this
    cases hu
  · rw [World.cell?_setCell_other w _ _ u (fun e2 => e (by injection e2 with _ e3; exact e3.symm))] at hj
    exact h j z hj
theorem NV.out {w : World} {g : Nat} {A : Option Addr} {n c : Nat} {xs : List Int} (h : NV w A n c xs) (hv : VB w g) (k : Nat) (u : Value) : NV (w.setCell ⟨g, k, none⟩ u) A n c xs := by
  refine ⟨⟨h.1.1, fun h0 => ?_⟩, h.2⟩
  obtain ⟨ad, e, hb, hc⟩ := h.1.2 h0
  refine ⟨ad, e, by simpa using hb, fun j v hj => ?_⟩
  have hcj := hc j v hj
  rw [World.cell?_setCell_other w _ _ u (fun e2 => ?_)]
  · exact hcj
  · rw [← e2] at hcj
    have hm := List.mem_of_getElem? hj
    obtain ⟨z, _, rfl⟩ := List.mem_map.1 hm
    exact hv k z hcj
theorem SV.ok.set {w : World} {g : Nat} {a : SV} (h : a.ok w) (hv : VB w g) (k : Nat) (u : Value) : a.ok (w.setCell ⟨g, k, none⟩ u) := ⟨NV.out h.1 hv k u, h.2⟩
/-- A variable that can be written. -/
def Var (w : World) (g : Nat) (a : SV) : Prop :=
  Five w g a ∧ VB w g ∧ w.frozen? ⟨g, 0, none⟩ = false ∧ w.frozen? ⟨g, 1, none⟩ = false ∧ w.frozen? ⟨g, 2, none⟩ = false ∧ w.frozen? ⟨g, 3, none⟩ = false ∧ w.frozen? ⟨g, 4, none⟩ = false
theorem Var.to {w w' : World} {g B : Nat} {a : SV} (h : Var w g a) (hb : Below B w w') (hB : g < B) (ho : a.ok w') : Var w' g a :=
  ⟨h.1.to hb hB ho, h.2.1.to hb hB, (hb.frozen (p := ⟨g, 0, none⟩) hB).trans h.2.2.1, (hb.frozen (p := ⟨g, 1, none⟩) hB).trans h.2.2.2.1, (hb.frozen (p := ⟨g, 2, none⟩) hB).trans h.2.2.2.2.1, (hb.frozen (p := ⟨g, 3, none⟩) hB).trans h.2.2.2.2.2.1, (hb.frozen (p := ⟨g, 4, none⟩) hB).trans h.2.2.2.2.2.2⟩
theorem Var.go {w w' : World} {g : Nat} {a : SV} (h : Var w g a) (hb : Below w.heap.size w w') : Var w' g a := h.to hb h.1.2.2.2.2.2.1 (h.1.ok.below hb)
theorem VB.drew {w : World} {g : Nat} (h : VB w g) : VB w.drew g := h
theorem Var.drew {w : World} {g : Nat} {a : SV} (h : Var w g a) : Var w.drew g a := ⟨h.1.drew, h.2⟩
theorem var_new (w : World) (a : SV) (h : a.ok w) : Var (w.alloc (.cells #[.int .i64 a.s, .bool a.b, .slice a.A a.n a.c, .int .i64 a.lv, .float .f64 a.x] 27)) w.heap.size a :=
  ⟨five_new w a h, fun k z => by
    match k with
    | 0 => go_simp
    | 1 => go_simp
    | 2 => go_simp
    | 3 => go_simp
    | 4 => go_simp
    | _ + 5 => go_simp, by go_simp, by go_simp, by go_simp, by go_simp, by go_simp⟩
theorem below_5 {B : Nat} {w w' : World} {g : Nat} (h : Below B w w') (hg : B ≤ g) (u0 u1 u2 u3 u4 : Value) :
    Below B w (((((w'.setCell ⟨g, 0, none⟩ u0).setCell ⟨g, 1, none⟩ u1).setCell ⟨g, 2, none⟩ u2).setCell ⟨g, 3, none⟩ u3).setCell ⟨g, 4, none⟩ u4) :=
  ((((h.setCell hg _).setCell hg _).setCell hg _).setCell hg _).setCell hg _
theorem SV.ok.set5 {w : World} {g : Nat} {a : SV} (h : a.ok w) (hv : VB w g) (s : Int) (b : Bool) (A : Option Addr) (n c : Nat) (lv : Int) (x : Nat) :
    a.ok (((((w.setCell ⟨g, 0, none⟩ (.int .i64 s)).setCell ⟨g, 1, none⟩ (.bool b)).setCell ⟨g, 2, none⟩ (.slice A n c)).setCell ⟨g, 3, none⟩ (.int .i64 lv)).setCell ⟨g, 4, none⟩ (.float .f64 x)) :=
  ((((h.set hv 0 _).set (hv.set 0 rfl) 1 _).set ((hv.set 0 rfl).set 1 rfl) 2 _).set (((hv.set 0 rfl).set 1 rfl).set 2 rfl) 3 _).set ((((hv.set 0 rfl).set 1 rfl).set 2 rfl).set 3 rfl) 4 _

def bothE (a b : SV) : Int := if a.may != 0 then a.may else if b.may != 0 then b.may else if a.s != b.s then 9 else 0
theorem both_any (a b : SV) (w : World) (ha : a.ok w) (hb : b.ok w) : Calls Tryz.prog 37 #[a.v, b.v] w fun e w' => e = .returned (.int .i64 (bothE a b)) ∧ Below w.heap.size w w' := by
  have hE := Lib.hid (show bothE a b = if a.may != 0 then a.may else if b.may != 0 then b.may else if a.s != b.s then 9 else 0 from rfl)
  have hA := five_new w a ha
  have hB := five_new _ b (hb.al (.cells #[.int .i64 a.s, .bool a.b, .slice a.A a.n a.c, .int .i64 a.lv, .float .f64 a.x] 27))
  replace hA := hA.al (.cells #[.int .i64 b.s, .bool b.b, .slice b.A b.n b.c, .int .i64 b.lv, .float .f64 b.x] 27)
  have h0 := below_al (below_al (Below.refl w.heap.size w) (.cells #[.int .i64 a.s, .bool a.b, .slice a.A a.n a.c, .int .i64 a.lv, .float .f64 a.x] 27)) (.cells #[.int .i64 b.s, .bool b.b, .slice b.A b.n b.c, .int .i64 b.lv, .float .f64 b.x] 27)
  have hg : (w.alloc (.cells #[.int .i64 a.s, .bool a.b, .slice a.A a.n a.c, .int .i64 a.lv, .float .f64 a.x] 27)).heap.size = w.heap.size + 1 := by simp
  rw [hg] at hB
  clear hg ha hb
  have HA := Lib.hid hA
  have HB := Lib.hid hB
  clear hA hB
  generalize hM : a.may = M at *
  generalize hM2 : b.may = M2 at *
  have HM := Lib.hid hM
  have HM2 := Lib.hid hM2
  clear hM hM2
  cases e1 : M != 0 <;> cases e2 : M2 != 0 <;> cases e3 : a.s != b.s
  all_goals
    rw [e1, e2, e3] at hE
    unfold SV.v
    go_enter Tryz.func37, Tryz.ntmps37
    go_wp2_with (first
      | (go_at_call 21; (with_reducible refine (may_sv a _ HA.out.ok).mono ?_); rw [HM.out]; rintro e w1 ⟨rfl, hb1⟩; have HA1 := HA.out.go hb1; have HB1 := HB.out.go hb1; obtain ⟨p0, p1, p2, p3, p4, _⟩ := HA1; obtain ⟨q0, q1, q2, q3, q4, _, hqo⟩ := id HB1; have H1 := Lib.hid (below_go h0 hb1))
      | (go_at_call 21; (with_reducible refine (may_sv b _ hqo).mono ?_); rw [HM2.out]; rintro e w2 ⟨rfl, hb2⟩; have HB2 := HB1.go hb2; have HA2 := (HA.out.go hb1).go hb2; obtain ⟨r0, r1, r2, r3, r4, _⟩ := HA2; obtain ⟨s0, s1, s2, s3, s4, _⟩ := HB2; have H1 := Lib.hid (below_go H1.out hb2)))
    go_ret
    exact ⟨by rw [hE.out]; rfl, H1.out⟩
end Go.Proofs.YtdkmmnehlmaebaaGreatDoor.Se
