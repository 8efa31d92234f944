
/- What the reader of paths computes (plain); what was written is read back. No condition. -/
import Derived.Test.YtpaehicfndkliaaGreatDoorPl
namespace Go.Proofs.YtpaehicfndkliaaGreatDoor.Pa
open Go.RowKit Go.Lib Na Go.PN

abbrev Rd := List UInt8 → Option (Fo × List UInt8)
def one1 (k : Int) (l : List UInt8) (d : Fo) (mn mx : Int) : Fo := .cons k ⟨l.toArray⟩ d mn mx .nil
/-- How numbers are read; how often something may stand behind a path. -/
structure Num where
  mn : List UInt8 → Option (Int × List UInt8)
  mx : List UInt8 → Option (Int × List UInt8)
  most : List UInt8 → Nat
def atomR (alt : Rd) (t : List UInt8) : Option (Fo × List UInt8) :=
  match t with
  | [] => none
  | c :: u =>
    if c = 94 then (nameR u).map fun x => (one1 3 x.1 .nil 0 0, x.2)
    else if c = 40 then
      if u.head? = some 41 then some (one1 1 [] .nil 0 0, u.tail)
      else match alt u with
        | some (p, v) => if v.head? = some 41 then some (p, v.tail) else none
        | none => none
    else (nameR (c :: u)).map fun x => (one1 2 x.1 .nil 0 0, x.2)
def repR (N : Num) (p : Fo) (t : List UInt8) : Option (Fo × List UInt8) :=
  match N.mn t with
  | none => none
  | some (m, u) =>
    if u.head? = some 44 then
      match N.mx u.tail with
      | none => none
      | some (x, v) => if v.head? = some 125 then some (one1 9 [] p m x, v.tail) else none
    else none
def postL (N : Num) : Nat → Fo → List UInt8 → Option (Fo × List UInt8)
  | 0, p, t => some (p, t)
  | n + 1, p, t =>
    match t with
    | [] => some (p, t)
    | c :: u =>
      if c = 42 then postL N n (one1 6 [] p 0 0) u
      else if c = 43 then postL N n (one1 7 [] p 0 0) u
      else if c = 63 then postL N n (one1 8 [] p 0 0) u
      else if c = 123 then
        match repR N p u with
        | some (q, v) => postL N n q v
        | none => none
      else some (p, t)
def postR (N : Num) (atom : Rd) (t : List UInt8) : Option (Fo × List UInt8) :=
  match atom t with
  | some (p, u) => postL N (N.most u) p u
  | none => none
def rowL (one : Rd) (sep : UInt8) : Nat → Fo → List UInt8 → Option (Fo × List UInt8)
  | 0, f, t => some (f, t)
  | n + 1, f, t =>
    match t with
    | [] => some (f, t)
    | c :: u =>
      if c = sep then
        match one u with
        | some (p, v) => rowL one sep n (f.app p) v
        | none => none
      else some (f, t)
def rowR (k : Int) (sep : UInt8) (one : Rd) (t : List UInt8) : Option (Fo × List UInt8) :=
  match one t with
  | some (p, u) =>
    match rowL one sep u.length p u with
    | some (f, v) => some (if f.len = 1 then f else one1 k [] f 0 0, v)
    | none => none
  | none => none
def altR (N : Num) : Nat → Rd
  | 0, _ => none
  | n + 1, t => rowR 5 124 (rowR 4 47 (postR N (atomR (altR N n)))) t
/-- A path as it is read: without what its kind does not ask for. -/
def nrm : Fo → Fo
  | .nil => .nil
  | .cons k l d mn mx r => .cons k (if k = 2 ∨ k = 3 then l else ⟨#[]⟩) (nrm d) (if k = 9 then mn else 0) (if k = 9 then mx else 0) (nrm r)
theorem nrm_len (f : Fo) : (nrm f).len = f.len := by
  induction f with
  | nil => rfl
  | cons k l d mn mx r _ ih => rw [nrm, Fo.len, Fo.len, ih]
theorem nrm_app (f g : Fo) : nrm (f.app g) = (nrm f).app (nrm g) := by
  induction f with
  | nil => rfl
  | cons k l d mn mx r _ ih => rw [Fo.app, nrm, nrm, Fo.app, ih]
def digB (c : UInt8) : Bool := decide (48 ≤ c.toNat) && decide (c.toNat ≤ 57)
/-- Numbers are read as they should be. -/
structure GN (N : Num) : Prop where
  mn : ∀ (m : Int) (c : UInt8) (r : List UInt8), 0 ≤ m → m ≤ 8 → digB c = false → N.mn (itoa m ++ c :: r) = some (m, c :: r)
  mx : ∀ (m : Int) (c : UInt8) (r : List UInt8), 0 ≤ m → m ≤ 8 → digB c = false → N.mx (itoa m ++ c :: r) = some (m, c :: r)
  no : ∀ (c : UInt8) (r : List UInt8), digB c = false → N.mx (c :: r) = some (-1, c :: r)
  most : ∀ u, u.length ≤ N.most u ∨ 60 ≤ N.most u
/-- What may stand behind a path: 2 behind what is repeated, 1 behind one of a row, 0 behind what is one of. -/
def stop (p : Nat) (r : List UInt8) : Prop := ∀ c, r.head? = some c → plainB c = false ∧ c ≠ 42 ∧ c ≠ 43 ∧ c ≠ 63 ∧ c ≠ 123 ∧ (p ≤ 1 → c ≠ 47) ∧ (p = 0 → c ≠ 124)
theorem stop.mono {p q : Nat} {r : List UInt8} (h : stop p r) (hq : p ≤ q) : stop q r := fun c hc => by
  obtain ⟨a1, a2, a3, a4, a5, a6, a7⟩ := h c hc
  exact ⟨a1, a2, a3, a4, a5, fun e => a6 (by omega), fun e => a7 (by omega)⟩
theorem postL_stop (N : Num) (n : Nat) (p : Fo) (r : List UInt8) (h : stop 2 r) : postL N n p r = some (p, r) := by
  cases n with
  | zero => rfl
  | succ n =>
    cases r with
    | nil => rfl
    | cons c u =>
      obtain ⟨_, h1, h2, h3, h4, _⟩ := h c rfl
      rw [postL, if_neg h1, if_neg h2, if_neg h3, if_neg h4]
theorem rowL_stop (one : Rd) (sep : UInt8) (n : Nat) (f : Fo) (r : List UInt8) (h : ∀ c, r.head? = some c → c ≠ sep) : rowL one sep n f r = some (f, r) := by
  cases n with
  | zero => rfl
  | succ n =>
    cases r with
    | nil => rfl
    | cons c u => rw [rowL, if_neg (h c rfl)]
/-- A row's texts, each with a sign ahead, are read. -/
theorem rowL_back (one : Rd) (sep : UInt8) (p : Int) (f : Fo) (r : List UInt8) (hs : ∀ c, r.head? = some c → c ≠ sep) :
    ∀ (n : Nat) (acc : Fo), (joinTail [sep] (tx f p)).length ≤ n →
    (∀ k l d mn mx g1 g2, f = Fo.app g1 (.cons k l d mn mx g2) → ∀ r', (r' = joinTail [sep] (tx g2 p) ++ r) → one (txN k l d mn mx p ++ r') = some (nrm (.cons k l d mn mx .nil), r')) →
    rowL one sep n acc (joinTail [sep] (tx f p) ++ r) = some (acc.app (nrm f), r) := by
  induction f with
  | nil =>
    intro n acc _ _
    rw [show joinTail [sep] (tx .nil p) ++ r = r from rfl, rowL_stop _ _ _ _ _ hs, show nrm .nil = .nil from rfl, Fo.app_nil]
  | cons k l d mn mx g _ ih =>
    intro n acc hn h
    have e : joinTail [sep] (tx (.cons k l d mn mx g) p) = sep :: (txN k l d mn mx p ++ joinTail [sep] (tx g p)) := by
      rw [tx_cons]; simp [joinTail]
    rw [e] at hn ⊢
    rw [List.length_cons] at hn
    match n, hn with
    | n + 1, hn =>
      rw [List.cons_append, rowL]
      simp only [if_true]
      rw [List.append_assoc, h k l d mn mx .nil g rfl _ rfl]
      simp only
      rw [ih n _ (by rw [List.length_append] at hn; omega) (fun k' l' d' mn' mx' g1 g2 e' r' hr' => h k' l' d' mn' mx' (.cons k l d mn mx g1) g2 (by rw [e']; rfl) r' hr')]
      rw [Fo.app_assoc]
      rfl
theorem rowR_back (k0 : Int) (one : Rd) (sep : UInt8) (p : Int) (f : Fo) (r : List UInt8) (hs : ∀ c, r.head? = some c → c ≠ sep) (h2 : 2 ≤ f.len)
    (h : ∀ k l d mn mx g1 g2, f = Fo.app g1 (.cons k l d mn mx g2) → ∀ r', (r' = joinTail [sep] (tx g2 p) ++ r) → one (txN k l d mn mx p ++ r') = some (nrm (.cons k l d mn mx .nil), r')) :
    rowR k0 sep one (Lib.join (tx f p) [sep] ++ r) = some (one1 k0 [] (nrm f) 0 0, r) := by
  cases f with
  | nil => simp [Fo.len] at h2
  | cons k l d mn mx g =>
    rw [tx_cons, join_cons, List.append_assoc]
    unfold rowR
    rw [h k l d mn mx .nil g rfl _ rfl]
    simp only
    rw [rowL_back one sep p g r hs _ _ (by rw [List.length_append]; omega) (fun k' l' d' mn' mx' g1 g2 e' r' hr' => h k' l' d' mn' mx' (.cons k l d mn mx g1) g2 (by rw [e']; rfl) r' hr')]
    simp only
    have e : (nrm (Fo.cons k l d mn mx .nil)).app (nrm g) = nrm (.cons k l d mn mx g) := (nrm_app (Fo.cons k l d mn mx .nil) g).symm
    rw [e, nrm_len, if_neg (by omega)]
theorem rowR_one (k0 : Int) (one : Rd) (sep : UInt8) (k : Int) (l : ByteArray) (d : Fo) (mn mx : Int) (t r : List UInt8) (hs : ∀ c, r.head? = some c → c ≠ sep) (h : one (t ++ r) = some (nrm (.cons k l d mn mx .nil), r)) :
    rowR k0 sep one (t ++ r) = some (nrm (.cons k l d mn mx .nil), r) := by
  unfold rowR
  rw [h]
  simp only
  rw [rowL_stop _ _ _ _ _ hs]
  simp only
  rw [nrm_len, if_pos (show (Fo.cons k l d mn mx .nil).len = 1 from rfl)]
end Go.Proofs.YtpaehicfndkliaaGreatDoor.Pa
