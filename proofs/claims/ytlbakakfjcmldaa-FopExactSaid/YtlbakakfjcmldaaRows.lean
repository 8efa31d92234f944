/-
  No cell of these rows narrows 'for every input' (looked for: loops, veiled, ifaces, maps, wideKeys, modest, calm, conditions, laid).
  DERIVED. THE GIVEN ROWS OF THIS SEAT. 6 by the template 'for every input the law returns true; each argument reads behind the call as it read before'; 0 by the template 'total and deterministic' (their statements: YtlbakakfjcmldaaTotals.lean).
  GIVEN WITH THE SEED: the statements are not yours to turn. If you find one false, say at which input.
  Laid BY PROGRAM, IN A SANDBOX (cutbox-rows.mjs): the forced cells as the released guide's own fill.sh prints them over the translation f8055b1fc26ec478… (all of the seat's roots in one cut). By AI agents, Wed Nov 11 2026. No macro, syntax, notation, axiom, sorry.
-/
import Derived.Test.YtlbakakfjcmldaaChecked
import GoSem.Claim
import GoSem.ClaimJoined
import GoSem.ClaimMapViews
import Derived.JoinedTies
import Derived.KernelRfl
namespace Go.Proofs.Ytlbakakfjcmldaa
/- THE CELL 'sum', in the pinned program and in every row, IS THE sha256 OF THE DUMP (.gsa) THAT YtlbakakfjcmldaaProg.lean LOADS. Nothing in Lean hashes anything: it is a label: what it is worth is what the hold of that sum in a sandbox is worth. -/
noncomputable def Try.pinned : Pinned := { name := "ytlbakakfjcmldaa", sum := "f8055b1fc26ec4787a290a6a7550973f9e896a2d605ae9a3904368d4685ddedc", checked := Try.checked }
namespace Rows
def none {H : Type} : Left H := { results := [], args := [] }

/-- 'tansylaw2.FopAsks': WHATEVER THE INPUT: true; the input reads as it did. -/
def fopAsksSpec : ChangeSpec := { name := "fopAsks", fn := fun _ => fun
  | [d1, d2] => { results := [.lit (.bool true)], args := [d1, d2] }
  | _ => none }
def fopAsksRow : OpenClaim := { program := "ytlbakakfjcmldaa", sum := "f8055b1fc26ec4787a290a6a7550973f9e896a2d605ae9a3904368d4685ddedc", func := "tansy/tansylaw2.FopAsks", spec := "fopAsks", inPlace := ["math.Float64bits", "math.Float64frombits", "math.archTrunc"], apart := false }
def FopAsksSaid : Prop := fopAsksRow.holds Try.pinned (OpenSpec.ofChange fopAsksSpec)

/-- ITS FALSE NEIGHBOUR: 'it returns false'. Refute it at one input. -/
def fopAsksWrong : ChangeSpec := { name := "fopAsks", fn := fun _ => fun
  | [d1, d2] => { results := [.lit (.bool false)], args := [d1, d2] }
  | _ => none }
def FopAsksWrongFalsely : Prop := fopAsksRow.holds Try.pinned (OpenSpec.ofChange fopAsksWrong)

/-- 'tansylaw2.FopSinks': WHATEVER THE INPUT: true; the input reads as it did. -/
def fopSinksSpec : ChangeSpec := { name := "fopSinks", fn := fun _ => fun
  | [d1, d2] => { results := [.lit (.bool true)], args := [d1, d2] }
  | _ => none }
def fopSinksRow : OpenClaim := { program := "ytlbakakfjcmldaa", sum := "f8055b1fc26ec4787a290a6a7550973f9e896a2d605ae9a3904368d4685ddedc", func := "tansy/tansylaw2.FopSinks", spec := "fopSinks", inPlace := ["math.Float64bits", "math.Float64frombits", "math.archTrunc"], apart := false }
def FopSinksSaid : Prop := fopSinksRow.holds Try.pinned (OpenSpec.ofChange fopSinksSpec)

/-- ITS FALSE NEIGHBOUR: 'it returns false'. Refute it at one input. -/
def fopSinksWrong : ChangeSpec := { name := "fopSinks", fn := fun _ => fun
  | [d1, d2] => { results := [.lit (.bool false)], args := [d1, d2] }
  | _ => none }
def FopSinksWrongFalsely : Prop := fopSinksRow.holds Try.pinned (OpenSpec.ofChange fopSinksWrong)

/-- 'tansylaw2.FopExact': WHATEVER THE INPUT: true; the input reads as it did. -/
def fopExactSpec : ChangeSpec := { name := "fopExact", fn := fun _ => fun
  | [d1, d2, d3] => { results := [.lit (.bool true)], args := [d1, d2, d3] }
  | _ => none }
def fopExactRow : OpenClaim := { program := "ytlbakakfjcmldaa", sum := "f8055b1fc26ec4787a290a6a7550973f9e896a2d605ae9a3904368d4685ddedc", func := "tansy/tansylaw2.FopExact", spec := "fopExact", inPlace := ["math.Float64bits", "math.Float64frombits", "math.archTrunc"], apart := false }
def FopExactSaid : Prop := fopExactRow.holds Try.pinned (OpenSpec.ofChange fopExactSpec)

/-- ITS FALSE NEIGHBOUR: 'it returns false'. Refute it at one input. -/
def fopExactWrong : ChangeSpec := { name := "fopExact", fn := fun _ => fun
  | [d1, d2, d3] => { results := [.lit (.bool false)], args := [d1, d2, d3] }
  | _ => none }
def FopExactWrongFalsely : Prop := fopExactRow.holds Try.pinned (OpenSpec.ofChange fopExactWrong)

/-- 'tansylaw2.FopInf': WHATEVER THE INPUT: true; the input reads as it did. -/
def fopInfSpec : ChangeSpec := { name := "fopInf", fn := fun _ => fun
  | [d] => { results := [.lit (.bool true)], args := [d] }
  | _ => none }
def fopInfRow : OpenClaim := { program := "ytlbakakfjcmldaa", sum := "f8055b1fc26ec4787a290a6a7550973f9e896a2d605ae9a3904368d4685ddedc", func := "tansy/tansylaw2.FopInf", spec := "fopInf", inPlace := ["math.Float64bits", "math.Float64frombits", "math.archTrunc"], apart := false }
def FopInfSaid : Prop := fopInfRow.holds Try.pinned (OpenSpec.ofChange fopInfSpec)

/-- ITS FALSE NEIGHBOUR: 'it returns false'. Refute it at one input. -/
def fopInfWrong : ChangeSpec := { name := "fopInf", fn := fun _ => fun
  | [d] => { results := [.lit (.bool false)], args := [d] }
  | _ => none }
def FopInfWrongFalsely : Prop := fopInfRow.holds Try.pinned (OpenSpec.ofChange fopInfWrong)

/-- 'tansylaw2.FopPairs': WHATEVER THE INPUT: true; the input reads as it did. -/
def fopPairsSpec : ChangeSpec := { name := "fopPairs", fn := fun _ => fun
  | [d1, d2, d3] => { results := [.lit (.bool true)], args := [d1, d2, d3] }
  | _ => none }
def fopPairsRow : OpenClaim := { program := "ytlbakakfjcmldaa", sum := "f8055b1fc26ec4787a290a6a7550973f9e896a2d605ae9a3904368d4685ddedc", func := "tansy/tansylaw2.FopPairs", spec := "fopPairs", inPlace := ["math.Float64bits", "math.Float64frombits", "math.archTrunc"], apart := false }
def FopPairsSaid : Prop := fopPairsRow.holds Try.pinned (OpenSpec.ofChange fopPairsSpec)

/-- ITS FALSE NEIGHBOUR: 'it returns false'. Refute it at one input. -/
def fopPairsWrong : ChangeSpec := { name := "fopPairs", fn := fun _ => fun
  | [d1, d2, d3] => { results := [.lit (.bool false)], args := [d1, d2, d3] }
  | _ => none }
def FopPairsWrongFalsely : Prop := fopPairsRow.holds Try.pinned (OpenSpec.ofChange fopPairsWrong)

/-- 'tansylaw2.FopRows': WHATEVER THE INPUT: true; the input reads as it did. -/
def fopRowsSpec : ChangeSpec := { name := "fopRows", fn := fun _ => fun
  | [d1, d2] => { results := [.lit (.bool true)], args := [d1, d2] }
  | _ => none }
def fopRowsRow : OpenClaim := { program := "ytlbakakfjcmldaa", sum := "f8055b1fc26ec4787a290a6a7550973f9e896a2d605ae9a3904368d4685ddedc", func := "tansy/tansylaw2.FopRows", spec := "fopRows", inPlace := ["math.Float64bits", "math.Float64frombits", "math.archTrunc", "math.archFloor"], apart := false }
def FopRowsSaid : Prop := fopRowsRow.holds Try.pinned (OpenSpec.ofChange fopRowsSpec)

/-- ITS FALSE NEIGHBOUR: 'it returns false'. Refute it at one input. -/
def fopRowsWrong : ChangeSpec := { name := "fopRows", fn := fun _ => fun
  | [d1, d2] => { results := [.lit (.bool false)], args := [d1, d2] }
  | _ => none }
def FopRowsWrongFalsely : Prop := fopRowsRow.holds Try.pinned (OpenSpec.ofChange fopRowsWrong)

/- THE SECOND FORM. 'bulk': how many values and letters a reading holds, each counted each time it is reached (what is shared counts as often as it is met; a slice's spare places count too). A statement '..UptoSaid' is the law's where the arguments, and the package variables that the reading takes, are together of bulk at most 1048576: NARROWER than '..Said'. Prove '..Said' where nothing that the law and all that it calls make is longer than what came in: it says more and counts as full. Else prove '..UptoSaid'. A law counts once. -/
mutual
def uptoBulk {H : Type} : DataW H → Nat
  | .lit (.string bytes) => bytes.length + 1
  | .lit _ => 1
  | .nil => 1
  | .ptr d => uptoBulk d + 1
  | .slice elems spare => uptoBulkAll elems + uptoBulkAll spare + 1
  | .agg parts => uptoBulkAll parts + 1
  | .iface _ d => uptoBulk d + 1
  | .map entries => uptoBulkEntries entries + 1
  | .held _ => 1
def uptoBulkAll {H : Type} : List (DataW H) → Nat
  | [] => 0
  | d :: r => uptoBulk d + uptoBulkAll r
def uptoBulkEntries {H : Type} : List (Lit × DataW H) → Nat
  | [] => 0
  | x :: r => uptoBulkEntry x + uptoBulkEntries r
def uptoBulkEntry {H : Type} : Lit × DataW H → Nat
  | (.string bytes, d) => bytes.length + uptoBulk d + 1
  | (_, d) => uptoBulk d + 1
 end
def uptoSmall : (H : Type) → List (DataW H) → Bool := fun _ ds => decide (uptoBulkAll ds ≤ 1048576)
def OpenSpec.upto (s : _root_.Go.ChangeSpec) : _root_.Go.OpenSpec := { _root_.Go.OpenSpec.ofChange s with cond := some uptoSmall }

/-- 'tansylaw2.FopAsks', WHERE WHAT IT READS IS OF BULK AT MOST 1048576: true; the input reads as it did. -/
def fopAsksUptoRow : OpenClaim := { program := "ytlbakakfjcmldaa", sum := "f8055b1fc26ec4787a290a6a7550973f9e896a2d605ae9a3904368d4685ddedc", func := "tansy/tansylaw2.FopAsks", spec := "fopAsks", inPlace := ["math.Float64bits", "math.Float64frombits", "math.archTrunc"], apart := false, narrowed := true }
def FopAsksUptoSaid : Prop := fopAsksUptoRow.holds Try.pinned (OpenSpec.upto fopAsksSpec)

/-- 'tansylaw2.FopSinks', WHERE WHAT IT READS IS OF BULK AT MOST 1048576: true; the input reads as it did. -/
def fopSinksUptoRow : OpenClaim := { program := "ytlbakakfjcmldaa", sum := "f8055b1fc26ec4787a290a6a7550973f9e896a2d605ae9a3904368d4685ddedc", func := "tansy/tansylaw2.FopSinks", spec := "fopSinks", inPlace := ["math.Float64bits", "math.Float64frombits", "math.archTrunc"], apart := false, narrowed := true }
def FopSinksUptoSaid : Prop := fopSinksUptoRow.holds Try.pinned (OpenSpec.upto fopSinksSpec)

/-- 'tansylaw2.FopExact', WHERE WHAT IT READS IS OF BULK AT MOST 1048576: true; the input reads as it did. -/
def fopExactUptoRow : OpenClaim := { program := "ytlbakakfjcmldaa", sum := "f8055b1fc26ec4787a290a6a7550973f9e896a2d605ae9a3904368d4685ddedc", func := "tansy/tansylaw2.FopExact", spec := "fopExact", inPlace := ["math.Float64bits", "math.Float64frombits", "math.archTrunc"], apart := false, narrowed := true }
def FopExactUptoSaid : Prop := fopExactUptoRow.holds Try.pinned (OpenSpec.upto fopExactSpec)

/-- 'tansylaw2.FopInf', WHERE WHAT IT READS IS OF BULK AT MOST 1048576: true; the input reads as it did. -/
def fopInfUptoRow : OpenClaim := { program := "ytlbakakfjcmldaa", sum := "f8055b1fc26ec4787a290a6a7550973f9e896a2d605ae9a3904368d4685ddedc", func := "tansy/tansylaw2.FopInf", spec := "fopInf", inPlace := ["math.Float64bits", "math.Float64frombits", "math.archTrunc"], apart := false, narrowed := true }
def FopInfUptoSaid : Prop := fopInfUptoRow.holds Try.pinned (OpenSpec.upto fopInfSpec)

/-- 'tansylaw2.FopPairs', WHERE WHAT IT READS IS OF BULK AT MOST 1048576: true; the input reads as it did. -/
def fopPairsUptoRow : OpenClaim := { program := "ytlbakakfjcmldaa", sum := "f8055b1fc26ec4787a290a6a7550973f9e896a2d605ae9a3904368d4685ddedc", func := "tansy/tansylaw2.FopPairs", spec := "fopPairs", inPlace := ["math.Float64bits", "math.Float64frombits", "math.archTrunc"], apart := false, narrowed := true }
def FopPairsUptoSaid : Prop := fopPairsUptoRow.holds Try.pinned (OpenSpec.upto fopPairsSpec)

/-- 'tansylaw2.FopRows', WHERE WHAT IT READS IS OF BULK AT MOST 1048576: true; the input reads as it did. -/
def fopRowsUptoRow : OpenClaim := { program := "ytlbakakfjcmldaa", sum := "f8055b1fc26ec4787a290a6a7550973f9e896a2d605ae9a3904368d4685ddedc", func := "tansy/tansylaw2.FopRows", spec := "fopRows", inPlace := ["math.Float64bits", "math.Float64frombits", "math.archTrunc", "math.archFloor"], apart := false, narrowed := true }
def FopRowsUptoSaid : Prop := fopRowsUptoRow.holds Try.pinned (OpenSpec.upto fopRowsSpec)

end Rows
end Go.Proofs.Ytlbakakfjcmldaa
