/-
  DERIVED. GIVEN WITH THE SEED: THE CARDS: each row of YtfjblhalfgildaaDoorRows.lean that lists a variable, with what it lists TIED to the program's text (the seventh form; the later family's looks); each row that meets fmt, with fmt's text TOLD by the authors' own Lean function (tested against real Go, not proved from fmt's source: count such statements apart). THE CARD IS WHAT COUNTS. Prove the row's statement (the work); the ties are given (YtfjblhalfgildaaDoorTie.lean); close each card by the builder's one call (the guide's Derived/Test/ToyasCard.lean, 'card_holds'). Laid BY PROGRAM, IN A SANDBOX (cutbox-door.mjs). By AI agents, Wed Nov 11 2026. No macro, syntax, notation, axiom, sorry.
-/
import Derived.Test.YtfjblhalfgildaaDoorRows
import GoSem.ClaimSeven
namespace Go.Proofs.YtfjblhalfgildaaDoor
namespace Rows

/-- THE TIED CARD OF 'tansylaw9.DesugCounts'. -/
def desugCountsCard : Claim7 := { stood := { row := desugCountsRow, standIns := [], harness := (true, "1a5d9650dbf63aaa31aecd1f3e0b9ddf8af5d7012cedc73a6c9918b042875e33"), looks := true }, kinds := [], alts := [], laidByText := true, laidKinds := [.data, .data, .data, .sentinel, .sentinel], laidTests := true, laidLooks := .later }
def DesugCountsCardSaid : Prop := Claim7.holds Tryd.pinned (.plain (OpenSpec.ofChange desugCountsSpec)) desugCountsCard

/-- THE SECOND FORM's CARD OF 'tansylaw9.DesugCounts'. -/
def desugCountsUptoCard : Claim7 := { stood := { row := desugCountsUptoRow, standIns := [], harness := (true, "1a5d9650dbf63aaa31aecd1f3e0b9ddf8af5d7012cedc73a6c9918b042875e33"), looks := true }, kinds := [], alts := [], laidByText := true, laidKinds := [.data, .data, .data, .sentinel, .sentinel], laidTests := true, laidLooks := .later }
def DesugCountsUptoCardSaid : Prop := Claim7.holds Tryd.pinned (.plain (OpenSpec.upto desugCountsSpec)) desugCountsUptoCard
end Rows
end Go.Proofs.YtfjblhalfgildaaDoor
