/-
  DERIVED. GIVEN WITH THE SEED: THE CARDS: each row of YthbodojhddmbhaaDoorRows.lean that lists a variable, with what it lists TIED to the program's text (the seventh form; the later family's looks); each row that meets fmt, with fmt's text TOLD by the authors' own Lean function (tested against real Go, not proved from fmt's source: count such statements apart). THE CARD IS WHAT COUNTS. Prove the row's statement (the work); the ties are given (YthbodojhddmbhaaDoorTie.lean); close each card by the builder's one call (the guide's Derived/Test/ToyasCard.lean, 'card_holds'). Laid BY PROGRAM, IN A SANDBOX (cutbox-door.mjs). By AI agents, Wed Nov 11 2026. No macro, syntax, notation, axiom, sorry.
-/
import Derived.Test.YthbodojhddmbhaaDoorRows
import GoSem.ClaimSeven
namespace Go.Proofs.YthbodojhddmbhaaDoor
namespace Rows

/-- THE TIED CARD OF 'tansylaw7.PathNames'. -/
def pathNamesCard : Claim7 := { stood := { row := pathNamesRow, standIns := [], harness := (true, "8b3d43e7e26d0352bd5467cf76523c7ddda0306bf1f78a7340ed446050644ece"), looks := true }, kinds := [], alts := [], laidByText := true, laidKinds := [.data, .data, .data, .sentinel, .sentinel], laidTests := true, laidLooks := .later }
def PathNamesCardSaid : Prop := Claim7.holds Tryd.pinned (.plain (OpenSpec.ofChange pathNamesSpec)) pathNamesCard

/-- THE TIED CARD OF 'tansylaw7.PathBinds'. -/
def pathBindsCard : Claim7 := { stood := { row := pathBindsRow, standIns := [], harness := (true, "8b3d43e7e26d0352bd5467cf76523c7ddda0306bf1f78a7340ed446050644ece"), looks := true }, kinds := [], alts := [], laidByText := true, laidKinds := [.data, .data, .data, .sentinel, .sentinel], laidTests := true, laidLooks := .later }
def PathBindsCardSaid : Prop := Claim7.holds Tryd.pinned (.plain (OpenSpec.ofChange pathBindsSpec)) pathBindsCard

/-- THE TIED CARD OF 'tansylaw7.PathBrackets'. -/
def pathBracketsCard : Claim7 := { stood := { row := pathBracketsRow, standIns := [], harness := (true, "8b3d43e7e26d0352bd5467cf76523c7ddda0306bf1f78a7340ed446050644ece"), looks := true }, kinds := [], alts := [], laidByText := true, laidKinds := [.data, .data, .data, .sentinel, .sentinel], laidTests := true, laidLooks := .later }
def PathBracketsCardSaid : Prop := Claim7.holds Tryd.pinned (.plain (OpenSpec.ofChange pathBracketsSpec)) pathBracketsCard

/-- THE TIED CARD OF 'tansylaw7.PathGrows'. -/
def pathGrowsCard : Claim7 := { stood := { row := pathGrowsRow, standIns := [], harness := (true, "8b3d43e7e26d0352bd5467cf76523c7ddda0306bf1f78a7340ed446050644ece"), looks := true }, kinds := [], alts := [], laidByText := true, laidKinds := [.data, .data, .data, .sentinel, .sentinel], laidTests := true, laidLooks := .later }
def PathGrowsCardSaid : Prop := Claim7.holds Tryd.pinned (.plain (OpenSpec.ofChange pathGrowsSpec)) pathGrowsCard

/-- THE TIED CARD OF 'tansylaw7.PathBack'. -/
def pathBackCard : Claim7 := { stood := { row := pathBackRow, standIns := [], harness := (true, "8b3d43e7e26d0352bd5467cf76523c7ddda0306bf1f78a7340ed446050644ece"), looks := true }, kinds := [], alts := [], laidByText := true, laidKinds := [.data, .data, .data, .sentinel, .sentinel], laidTests := true, laidLooks := .later }
def PathBackCardSaid : Prop := Claim7.holds Tryd.pinned (.plain (OpenSpec.ofChange pathBackSpec)) pathBackCard

/-- THE SECOND FORM's CARD OF 'tansylaw7.PathNames'. -/
def pathNamesUptoCard : Claim7 := { stood := { row := pathNamesUptoRow, standIns := [], harness := (true, "8b3d43e7e26d0352bd5467cf76523c7ddda0306bf1f78a7340ed446050644ece"), looks := true }, kinds := [], alts := [], laidByText := true, laidKinds := [.data, .data, .data, .sentinel, .sentinel], laidTests := true, laidLooks := .later }
def PathNamesUptoCardSaid : Prop := Claim7.holds Tryd.pinned (.plain (OpenSpec.upto pathNamesSpec)) pathNamesUptoCard

/-- THE SECOND FORM's CARD OF 'tansylaw7.PathBinds'. -/
def pathBindsUptoCard : Claim7 := { stood := { row := pathBindsUptoRow, standIns := [], harness := (true, "8b3d43e7e26d0352bd5467cf76523c7ddda0306bf1f78a7340ed446050644ece"), looks := true }, kinds := [], alts := [], laidByText := true, laidKinds := [.data, .data, .data, .sentinel, .sentinel], laidTests := true, laidLooks := .later }
def PathBindsUptoCardSaid : Prop := Claim7.holds Tryd.pinned (.plain (OpenSpec.upto pathBindsSpec)) pathBindsUptoCard

/-- THE SECOND FORM's CARD OF 'tansylaw7.PathBrackets'. -/
def pathBracketsUptoCard : Claim7 := { stood := { row := pathBracketsUptoRow, standIns := [], harness := (true, "8b3d43e7e26d0352bd5467cf76523c7ddda0306bf1f78a7340ed446050644ece"), looks := true }, kinds := [], alts := [], laidByText := true, laidKinds := [.data, .data, .data, .sentinel, .sentinel], laidTests := true, laidLooks := .later }
def PathBracketsUptoCardSaid : Prop := Claim7.holds Tryd.pinned (.plain (OpenSpec.upto pathBracketsSpec)) pathBracketsUptoCard

/-- THE SECOND FORM's CARD OF 'tansylaw7.PathGrows'. -/
def pathGrowsUptoCard : Claim7 := { stood := { row := pathGrowsUptoRow, standIns := [], harness := (true, "8b3d43e7e26d0352bd5467cf76523c7ddda0306bf1f78a7340ed446050644ece"), looks := true }, kinds := [], alts := [], laidByText := true, laidKinds := [.data, .data, .data, .sentinel, .sentinel], laidTests := true, laidLooks := .later }
def PathGrowsUptoCardSaid : Prop := Claim7.holds Tryd.pinned (.plain (OpenSpec.upto pathGrowsSpec)) pathGrowsUptoCard

/-- THE SECOND FORM's CARD OF 'tansylaw7.PathBack'. -/
def pathBackUptoCard : Claim7 := { stood := { row := pathBackUptoRow, standIns := [], harness := (true, "8b3d43e7e26d0352bd5467cf76523c7ddda0306bf1f78a7340ed446050644ece"), looks := true }, kinds := [], alts := [], laidByText := true, laidKinds := [.data, .data, .data, .sentinel, .sentinel], laidTests := true, laidLooks := .later }
def PathBackUptoCardSaid : Prop := Claim7.holds Tryd.pinned (.plain (OpenSpec.upto pathBackSpec)) pathBackUptoCard
end Rows
end Go.Proofs.YthbodojhddmbhaaDoor
