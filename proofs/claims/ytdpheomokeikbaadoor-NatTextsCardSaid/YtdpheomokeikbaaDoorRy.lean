/- nat.Bytes of too many digits; the document's own BytesNat. Conditions: the digits can be read. -/
import Derived.Test.YtdpheomokeikbaaDoorUb
import Derived.Test.YtdpheomokeikbaaDoorAs
import Derived.Deep.RegionHeld3
namespace Go.Proofs.YtdpheomokeikbaaDoor
open Go.RowKit Go.NT Go.Lib

set_option maxRecDepth 100000 in
set_option maxHeartbeats 2000000 in
theorem bytes_much (A : Option Addr) (n c : Nat) (xs : List Int) (w : World) (h : NV w A n c xs) (hM : Hid ((if false then ((n : Int) == 0) else (((strip xs).length : Int) == (n : Int))) = true)) (hn : 64 < n) :
    Calls Tryd.prog 28 #[.agg #[.bool false, .slice A n c]] w fun e w' => e = .returned (.tuple #[.slice none 0 0, .int .i64 5]) ∧ Below w.heap.size w w' := by
  have hb1 : ∀ o, Below w.heap.size w (w.alloc o) := fun o => below_al (Below.refl _ _) o
  have hn64 : (64 : Int) < (n : Int) := by omega
  go_enter Tryd.func28, Tryd.ntmps28
  go_wp2_with (go_at_call 22; (with_reducible refine (may_is false A n c xs _ (h.below (hb1 _)) hM).mono ?_); rintro e w1 ⟨rfl, hb2⟩; have k1 : Box w1 w.heap.size false A n c xs := Box.go (Box.made h false) hb2; have p0 := k1.1; have p1 := k1.2.1)
  exact bodyPost_ret (v := .tuple #[.slice none 0 0, .int .i64 5]) (by simp [results, Tryd.results28, go_sem]) rfl ⟨rfl, below_step (hb1 _) hb2 (hb1 _).size⟩
set_option maxRecDepth 100000 in
set_option maxHeartbeats 2000000 in
theorem rbytes_much (A : Option Addr) (n c : Nat) (xs : List Int) (w : World) (h : NV w A n c xs) (hM : Hid ((if false then ((n : Int) == 0) else (((strip xs).length : Int) == (n : Int))) = true)) (hn : 64 < n) :
    Calls Tryd.prog 29 #[.agg #[.bool false, .slice A n c]] w fun e w' => e = .returned (.tuple #[.slice none 0 0, .int .i64 5]) ∧ Below w.heap.size w w' := by
  have hb1 : ∀ o, Below w.heap.size w (w.alloc o) := fun o => below_al (Below.refl _ _) o
  have hn64 : (64 : Int) < (n : Int) := by omega
  go_enter Tryd.func29, Tryd.ntmps29
  go_wp2_with (go_at_call 23; (with_reducible refine (rmay_is false A n c xs _ (h.below (hb1 _)) hM).mono ?_); rintro e w1 ⟨rfl, hb2⟩; have k1 : Box w1 w.heap.size false A n c xs := Box.go (Box.made h false) hb2; have p0 := k1.1; have p1 := k1.2.1)
  exact bodyPost_ret (v := .tuple #[.slice none 0 0, .int .i64 5]) (by simp [results, Tryd.results29, go_sem]) rfl ⟨rfl, below_step (hb1 _) hb2 (hb1 _).size⟩
set_option maxRecDepth 100000 in
set_option maxHeartbeats 2000000 in
theorem rbytes_not (b : Bool) (A : Option Addr) (n c : Nat) (xs : List Int) (w : World) (h : NV w A n c xs) (hM : Hid ((if b then ((n : Int) == 0) else (((strip xs).length : Int) == (n : Int))) = false)) :
    Calls Tryd.prog 29 #[.agg #[.bool b, .slice A n c]] w fun e w' => e = .returned (.tuple #[.slice none 0 0, .int .i64 16]) ∧ Below w.heap.size w w' := by
  have hb1 : ∀ o, Below w.heap.size w (w.alloc o) := fun o => below_al (Below.refl _ _) o
  go_enter Tryd.func29, Tryd.ntmps29
  go_wp2_with (go_at_call 23; (with_reducible refine (rmay_is b A n c xs _ (h.below (hb1 _)) hM).mono ?_); rintro e w1 ⟨rfl, hb2⟩)
  exact bodyPost_ret (v := .tuple #[.slice none 0 0, .int .i64 16]) (by simp [results, Tryd.results29, go_sem]) rfl ⟨rfl, below_step (hb1 _) hb2 (hb1 _).size⟩
set_option maxRecDepth 100000 in
set_option maxHeartbeats 2000000 in
theorem rbytes_inf (A : Option Addr) (n c : Nat) (xs : List Int) (w : World) (h : NV w A n c xs) (hM : Hid ((if true then ((n : Int) == 0) else (((strip xs).length : Int) == (n : Int))) = true)) (hn64 : ¬ (64 : Int) < (n : Int)) :
    Calls Tryd.prog 29 #[.agg #[.bool true, .slice A n c]] w fun e w' => ∃ g, e = .returned (.tuple #[.slice (some ⟨g, 0, none⟩) 1 1, .int .i64 0]) ∧ Reads w' w'.heap.size 1 (some ⟨g, 0, none⟩) 1 ([255].map (Value.int .u8)) ∧ Below w.heap.size w w' := by
  have hb1 : ∀ o, Below w.heap.size w (w.alloc o) := fun o => below_al (Below.refl _ _) o
  go_enter Tryd.func29, Tryd.ntmps29
  go_wp2_with (go_at_call 23; (with_reducible refine (rmay_is true A n c xs _ (h.below (hb1 _)) hM).mono ?_); rintro e w1 ⟨rfl, hb2⟩; have k1 : Box w1 w.heap.size true A n c xs := Box.go (Box.made h true) hb2; have p0 := k1.1; have p1 := k1.2.1)
  exact bodyPost_ret (v := .tuple #[.slice (some ⟨w1.heap.size, 0, none⟩) 1 1, .int .i64 0]) (by simp [results, Tryd.results29, go_sem]) rfl ⟨w1.heap.size, rfl, (Reads.lit1 (Value.int .u8) w1 255 5).more (by simp), below_al (below_step (hb1 _) hb2 (hb1 _).size) _⟩
set_option maxRecDepth 100000 in
set_option maxHeartbeats 2000000 in
theorem rbytes_fin (A : Option Addr) (n c : Nat) (xs : List Int) (w : World) (h : NV w A n c xs) (hn : n ≤ 64) (hM : Hid ((if false then ((n : Int) == 0) else (((strip xs).length : Int) == (n : Int))) = true)) :
    Calls Tryd.prog 29 #[.agg #[.bool false, .slice A n c]] w fun e w' => ∃ (A' : Option Addr) (c' : Nat), e = .returned (.tuple #[.slice A' (1 + 4 * n) c', .int .i64 0]) ∧ Reads w' w'.heap.size 1 A' (1 + 4 * n) ((byteL n xs).map (Value.int .u8)) ∧ 1 + 4 * n ≤ c' ∧ Below w.heap.size w w' := by
  obtain ⟨i5, hi, hz0, hz1, hz2⟩ := i5
  have hb1 : ∀ o, Below w.heap.size w (w.alloc o) := fun o => below_al (Below.refl _ _) o
  have hn64 : ¬ (64 : Int) < (n : Int) := by omega
  have hL := Lib.hid h.len
  have hu := h.2.2.1
  go_enter Tryd.func29, Tryd.ntmps29
  go_wp2_with (go_at_call 23; (with_reducible refine (rmay_is false A n c xs _ (h.below (hb1 _)) hM).mono ?_); rintro e w1 ⟨rfl, hb2⟩; have k1 : Box w1 w.heap.size false A n c xs := Box.go (Box.made h false) hb2; have p0 := k1.1; have p1 := k1.2.1; have k2 := k1.alloc (Obj.cells #[.int .u8 (n : Int)] 5); have p2 := k2.1; have p3 := k2.2.1)
  have hB0 := below_step (hb1 (Obj.cells #[.bool false, .slice A n c] 24)) hb2 (hb1 _).size
  have hown0 : (w1.alloc (Obj.cells #[.int .u8 (n : Int)] 5)).ownsRow w1.heap.size 5 1 (.slice (some ⟨w1.heap.size, 0, none⟩) 1 1) 1 ([(n : Int)].map (Value.int .u8)) := World.ownsRow_lit w1 #[.int .u8 (n : Int)] 1 (Nat.le_refl _) (by unfold maxLen; omega) rfl
  have hr1 := k1.nv.1
  clear h hb1 hb2
  go_loopw [4, 5] (fun v iv wr => ∃ (k : Nat) (A4 : Option Addr) (c4 : Nat), v = .slice A4 (1 + 4 * k) c4 ∧ iv = .int .i64 k ∧ k ≤ n ∧ wr.ownsRow w1.heap.size 5 1 (.slice A4 (1 + 4 * k) c4) (1 + 4 * k) (((n : Int) :: (xs.take k).flatMap le4).map (Value.int .u8)) ∧ 1 + 4 * k ≤ c4 ∧ Below w1.heap.size w1 wr) (fun _ iv _ => n - (RowKit.intOf iv).toNat)
  case atStart => exact ⟨0, _, 1, rfl, rfl, Nat.zero_le _, hown0, Nat.le_refl _, below_al (Below.refl _ _) _⟩
  case round =>
    obtain ⟨k, A4, c4, rfl, rfl, hk, hown, hc4, hbr⟩ := hrel
    have hlt0 := k1.2.2.1
    have q1 := (hbr.cell (p := ⟨w.heap.size, 1, none⟩) hlt0).trans k1.2.1
    clear p0 p1 p2 p3
    by_cases hlt : k < n
    · have hlt1 : (k : Int) < (n : Int) := by omega
      obtain ⟨ad, rfl, had, hcx0⟩ := hr1.get hlt
      have hcx := (hbr.cell (p := ad.add k) (by rw [block_of_add]; exact had)).trans hcx0
      have hst := Lib.hid (flat_take xs k (by rw [hL.out]; exact hlt))
      have hx := hu.getD k
      unfold NT.W at hx
      have hx0 := hx.1
      have hx1 := hx.2
      clear hx
      generalize xs.getD k 0 = x at *
      have e0 : IntKind.u8.wrap x = x % 256 := IntKind.wrap_u8 x
      have e1 : IntKind.u8.wrap (x / 256) = x / 256 % 256 := IntKind.wrap_u8 _
      have e2 : IntKind.u8.wrap (x / 65536) = x / 65536 % 256 := IntKind.wrap_u8 _
      have e3 : IntKind.u8.wrap (x / 16777216) = x / 16777216 := IntWalk.u8_in _ (by omega)
      have hsz := hbr.size
      have hownd : ((wr.alloc (Obj.cells #[.int .u8 (x % 256), .int .u8 (x / 256 % 256), .int .u8 (x / 65536 % 256), .int .u8 (x / 16777216)] 5)).drew).ownsRow w1.heap.size 5 1 (.slice A4 (1 + 4 * k) c4) (1 + 4 * k) (((n : Int) :: (xs.take k).flatMap le4).map (Value.int .u8)) := hown.alloc _
      have hrdd : Reads ((wr.alloc (Obj.cells #[.int .u8 (x % 256), .int .u8 (x / 256 % 256), .int .u8 (x / 65536 % 256), .int .u8 (x / 16777216)] 5)).drew) (wr.heap.size + 1) 1 (some ⟨wr.heap.size, 0, none⟩) 4 ((le4 x).map (Value.int .u8)) := Reads.lit4 wr _ _ _ _
      have qa : ((wr.alloc (Obj.cells #[.int .u8 (x % 256), .int .u8 (x / 256 % 256), .int .u8 (x / 65536 % 256), .int .u8 (x / 16777216)] 5)).drew).cell? ⟨w.heap.size, 1, none⟩ = some (.slice (some ad) n c) := (World.cell?_alloc_lt wr _ _ (by show w.heap.size < _; omega)).trans q1
      have ha : ((wr.alloc (Obj.cells #[.int .u8 (x % 256), .int .u8 (x / 256 % 256), .int .u8 (x / 65536 % 256), .int .u8 (x / 16777216)] 5)).drew).cell? (ad.add k) = some (.int .u32 x) := (World.cell?_alloc_lt wr _ _ (by rw [block_of_add]; omega)).trans hcx
      have hbd : Below w1.heap.size w1 ((wr.alloc (Obj.cells #[.int .u8 (x % 256), .int .u8 (x / 256 % 256), .int .u8 (x / 65536 % 256), .int .u8 (x / 16777216)] 5)).drew) := (hbr.alloc hsz _).drew
      go_wp2_with fail
      go_region_held3 (fun w' => w'.cell? ⟨w.heap.size, 1, none⟩ = some (.slice (some ad) n c) ∧ w'.cell? (ad.add k) = some (.int .u32 x)) (first | exact ⟨q1, hcx⟩ | exact ⟨qa, ha⟩) (first
        | (refine step_append_reads _ (Value.int .u8) (fun _ => rfl) 41 5 i5 _ 1 Tryd.underlying41 hi hz0 hz1 hz2 rfl rfl (.tmp 28) (.tmp 56) rfl w1.heap.size _ (1 + 4 * k) ((n : Int) :: (xs.take k).flatMap le4) rfl hownd _ _ 4 _ (le4 x) rfl hrdd (by unfold maxLen; omega) (by omega) (by simp; omega) ?_; intro A5 n5 c5 w5 hn5 hc5 hown5 hg5 hb5; have q1 := (hb5.cell (p := ⟨w.heap.size, 1, none⟩) hlt0).trans qa; have hcx := (hb5.cell (p := ad.add k) (by rw [block_of_add]; exact had)).trans ha))
      all_goals
        go_wp2_with fail
        obtain rfl : n5 = 1 + 4 * k + 4 := hn5.out
        exact ⟨⟨k + 1, A5, c5, rfl, by go_num, by omega, by
          have e : ((n : Int) :: (xs.take (k + 1)).flatMap le4) = ((n : Int) :: (xs.take k).flatMap le4) ++ le4 x := by rw [hst.out]; rfl
          rw [e]; exact hown5, hc5.out, hbd.trans hb5⟩, by simp [RowKit.intOf]; omega⟩
    · obtain rfl : k = n := by omega
      have hlt1 : ¬ (k : Int) < (k : Int) := by omega
      have hbf := below_step hB0 hbr hB0.size
      have hrd := Reads.of_own hown
      have hall : xs.take k = xs := List.take_of_length_le (by rw [hL.out]; exact Nat.le_refl _)
      rw [hall] at hrd
      go_wp2_with fail
      exact bodyPost_ret (v := .tuple #[.slice A4 (1 + 4 * k) c4, .int .i64 0]) (by simp [results, Tryd.results29, go_sem]) rfl ⟨A4, c4, rfl, hrd, hc4, hbf⟩
end Go.Proofs.YtdpheomokeikbaaDoor
