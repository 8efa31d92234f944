/-
  DERIVED. GIVEN WITH THE SEED: THE CARDS: each row of YtdkmmnehlmaebaaGreatDoorRows.lean that lists a variable, with what it lists TIED to the program's text (the seventh form; the later family's looks); each row that meets fmt, with fmt's text TOLD by the authors' own Lean function (tested against real Go, not proved from fmt's source: count such statements apart). THE CARD IS WHAT COUNTS. Prove the row's statement (the work); the ties are given (YtdkmmnehlmaebaaGreatDoorTie.lean); close each card by the builder's one call (the guide's Derived/Test/ToyasCard.lean, 'card_holds'). Laid BY PROGRAM, IN A SANDBOX (cutbox-door.mjs). By AI agents, Wed Nov 11 2026. No macro, syntax, notation, axiom, sorry.
-/
import Derived.Test.YtdkmmnehlmaebaaGreatDoorRows
import GoSem.ClaimSeven
namespace Go.Proofs.YtdkmmnehlmaebaaGreatDoor
namespace Rows

/-- THE TIED CARD OF 'tansylaw4.SemiAsks'. -/
def semiAsksCard : Claim7 := { stood := { row := semiAsksRow, standIns := [], harness := (true, "9a4ed3b154e9c5ddbc85878be47de1600b5fa2f80db5428342a72e15c38431d1"), looks := true }, kinds := [], alts := [], laidByText := true, laidKinds := [.data, .data, .data], laidTests := true, laidLooks := .later }
def SemiAsksCardSaid : Prop := Claim7.holds Tryz.pinned (.plain (OpenSpec.ofChange semiAsksSpec)) semiAsksCard

/-- THE TIED CARD OF 'tansylaw4.SemiRules'. -/
def semiRulesCard : Claim7 := { stood := { row := semiRulesRow, standIns := [], harness := (true, "9a4ed3b154e9c5ddbc85878be47de1600b5fa2f80db5428342a72e15c38431d1"), looks := true }, kinds := [], alts := [], laidByText := true, laidKinds := [.data, .data, .data], laidTests := true, laidLooks := .later }
def SemiRulesCardSaid : Prop := Claim7.holds Tryz.pinned (.plain (OpenSpec.ofChange semiRulesSpec)) semiRulesCard

/-- THE TIED CARD OF 'tansylaw4.SemiBack'. -/
def semiBackCard : Claim7 := { stood := { row := semiBackRow, standIns := [], harness := (true, "9a4ed3b154e9c5ddbc85878be47de1600b5fa2f80db5428342a72e15c38431d1"), looks := true }, kinds := [], alts := [], laidByText := true, laidKinds := [.data, .data, .data, .sentinel, .sentinel], laidTests := true, laidLooks := .later }
def SemiBackCardSaid : Prop := Claim7.holds Tryz.pinned (.plain (OpenSpec.ofChange semiBackSpec)) semiBackCard

/-- THE SECOND FORM's CARD OF 'tansylaw4.SemiAsks'. -/
def semiAsksUptoCard : Claim7 := { stood := { row := semiAsksUptoRow, standIns := [], harness := (true, "9a4ed3b154e9c5ddbc85878be47de1600b5fa2f80db5428342a72e15c38431d1"), looks := true }, kinds := [], alts := [], laidByText := true, laidKinds := [.data, .data, .data], laidTests := true, laidLooks := .later }
def SemiAsksUptoCardSaid : Prop := Claim7.holds Tryz.pinned (.plain (OpenSpec.upto semiAsksSpec)) semiAsksUptoCard

/-- THE SECOND FORM's CARD OF 'tansylaw4.SemiRules'. -/
def semiRulesUptoCard : Claim7 := { stood := { row := semiRulesUptoRow, standIns := [], harness := (true, "9a4ed3b154e9c5ddbc85878be47de1600b5fa2f80db5428342a72e15c38431d1"), looks := true }, kinds := [], alts := [], laidByText := true, laidKinds := [.data, .data, .data], laidTests := true, laidLooks := .later }
def SemiRulesUptoCardSaid : Prop := Claim7.holds Tryz.pinned (.plain (OpenSpec.upto semiRulesSpec)) semiRulesUptoCard

/-- THE SECOND FORM's CARD OF 'tansylaw4.SemiBack'. -/
def semiBackUptoCard : Claim7 := { stood := { row := semiBackUptoRow, standIns := [], harness := (true, "9a4ed3b154e9c5ddbc85878be47de1600b5fa2f80db5428342a72e15c38431d1"), looks := true }, kinds := [], alts := [], laidByText := true, laidKinds := [.data, .data, .data, .sentinel, .sentinel], laidTests := true, laidLooks := .later }
def SemiBackUptoCardSaid : Prop := Claim7.holds Tryz.pinned (.plain (OpenSpec.upto semiBackSpec)) semiBackUptoCard
end Rows
end Go.Proofs.YtdkmmnehlmaebaaGreatDoor
