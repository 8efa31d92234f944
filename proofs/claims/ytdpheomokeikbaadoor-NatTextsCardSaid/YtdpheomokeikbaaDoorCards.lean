/-
  DERIVED. GIVEN WITH THE SEED: THE CARDS: each row of YtdpheomokeikbaaDoorRows.lean that lists a variable, with what it lists TIED to the program's text (the seventh form; the later family's looks); each row that meets fmt, with fmt's text TOLD by the authors' own Lean function (tested against real Go, not proved from fmt's source: count such statements apart). THE CARD IS WHAT COUNTS. Prove the row's statement (the work); the ties are given (YtdpheomokeikbaaDoorTie.lean); close each card by the builder's one call (the guide's Derived/Test/ToyasCard.lean, 'card_holds'). Laid BY PROGRAM, IN A SANDBOX (cutbox-door.mjs). By AI agents, Wed Nov 11 2026. No macro, syntax, notation, axiom, sorry.
-/
import Derived.Test.YtdpheomokeikbaaDoorRows
import GoSem.ClaimSeven
namespace Go.Proofs.YtdpheomokeikbaaDoor
namespace Rows

/-- THE TIED CARD OF 'tansylaw3.NatOrder'. -/
def natOrderCard : Claim7 := { stood := { row := natOrderRow, standIns := [], harness := (true, "e12816f57894a86196110b8ab04e1835c375c9c92bcded3dcf2d94d9f3a98a57"), looks := false }, kinds := [], alts := [], laidByText := true, laidKinds := [.data, .data, .data], laidTests := true, laidLooks := .later }
def NatOrderCardSaid : Prop := Claim7.holds Tryd.pinned (.plain (OpenSpec.ofChange natOrderSpec)) natOrderCard

/-- THE TIED CARD OF 'tansylaw3.NatRules'. -/
def natRulesCard : Claim7 := { stood := { row := natRulesRow, standIns := [], harness := (true, "e12816f57894a86196110b8ab04e1835c375c9c92bcded3dcf2d94d9f3a98a57"), looks := false }, kinds := [], alts := [], laidByText := true, laidKinds := [.data, .data, .data], laidTests := true, laidLooks := .later }
def NatRulesCardSaid : Prop := Claim7.holds Tryd.pinned (.plain (OpenSpec.ofChange natRulesSpec)) natRulesCard

/-- THE TIED CARD OF 'tansylaw3.NatWords'. -/
def natWordsCard : Claim7 := { stood := { row := natWordsRow, standIns := [], harness := (true, "e12816f57894a86196110b8ab04e1835c375c9c92bcded3dcf2d94d9f3a98a57"), looks := false }, kinds := [], alts := [], laidByText := true, laidKinds := [.data, .data, .data], laidTests := true, laidLooks := .later }
def NatWordsCardSaid : Prop := Claim7.holds Tryd.pinned (.plain (OpenSpec.ofChange natWordsSpec)) natWordsCard

/-- THE TIED CARD OF 'tansylaw3.NatAsks'. -/
def natAsksCard : Claim7 := { stood := { row := natAsksRow, standIns := [], harness := (true, "e12816f57894a86196110b8ab04e1835c375c9c92bcded3dcf2d94d9f3a98a57"), looks := false }, kinds := [], alts := [], laidByText := true, laidKinds := [.data, .data, .data], laidTests := true, laidLooks := .later }
def NatAsksCardSaid : Prop := Claim7.holds Tryd.pinned (.plain (OpenSpec.ofChange natAsksSpec)) natAsksCard

/-- THE TIED CARD OF 'tansylaw3.NatLong'. -/
def natLongCard : Claim7 := { stood := { row := natLongRow, standIns := [], harness := (true, "e12816f57894a86196110b8ab04e1835c375c9c92bcded3dcf2d94d9f3a98a57"), looks := false }, kinds := [], alts := [], laidByText := true, laidKinds := [.data, .data, .data], laidTests := true, laidLooks := .later }
def NatLongCardSaid : Prop := Claim7.holds Tryd.pinned (.plain (OpenSpec.ofChange natLongSpec)) natLongCard

/-- THE TIED CARD OF 'tansylaw3.NatTexts'. -/
def natTextsCard : Claim7 := { stood := { row := natTextsRow, standIns := [], harness := (true, "e12816f57894a86196110b8ab04e1835c375c9c92bcded3dcf2d94d9f3a98a57"), looks := false }, kinds := [], alts := [], laidByText := true, laidKinds := [.data, .data, .data], laidTests := true, laidLooks := .later }
def NatTextsCardSaid : Prop := Claim7.holds Tryd.pinned (.plain (OpenSpec.ofChange natTextsSpec)) natTextsCard

/-- THE TIED CARD OF 'tansylaw3.NatBack'. -/
def natBackCard : Claim7 := { stood := { row := natBackRow, standIns := [], harness := (true, "e12816f57894a86196110b8ab04e1835c375c9c92bcded3dcf2d94d9f3a98a57"), looks := false }, kinds := [], alts := [], laidByText := true, laidKinds := [.data, .data, .data], laidTests := true, laidLooks := .later }
def NatBackCardSaid : Prop := Claim7.holds Tryd.pinned (.plain (OpenSpec.ofChange natBackSpec)) natBackCard

/-- THE SECOND FORM's CARD OF 'tansylaw3.NatOrder'. -/
def natOrderUptoCard : Claim7 := { stood := { row := natOrderUptoRow, standIns := [], harness := (true, "e12816f57894a86196110b8ab04e1835c375c9c92bcded3dcf2d94d9f3a98a57"), looks := false }, kinds := [], alts := [], laidByText := true, laidKinds := [.data, .data, .data], laidTests := true, laidLooks := .later }
def NatOrderUptoCardSaid : Prop := Claim7.holds Tryd.pinned (.plain (OpenSpec.upto natOrderSpec)) natOrderUptoCard

/-- THE SECOND FORM's CARD OF 'tansylaw3.NatRules'. -/
def natRulesUptoCard : Claim7 := { stood := { row := natRulesUptoRow, standIns := [], harness := (true, "e12816f57894a86196110b8ab04e1835c375c9c92bcded3dcf2d94d9f3a98a57"), looks := false }, kinds := [], alts := [], laidByText := true, laidKinds := [.data, .data, .data], laidTests := true, laidLooks := .later }
def NatRulesUptoCardSaid : Prop := Claim7.holds Tryd.pinned (.plain (OpenSpec.upto natRulesSpec)) natRulesUptoCard

/-- THE SECOND FORM's CARD OF 'tansylaw3.NatWords'. -/
def natWordsUptoCard : Claim7 := { stood := { row := natWordsUptoRow, standIns := [], harness := (true, "e12816f57894a86196110b8ab04e1835c375c9c92bcded3dcf2d94d9f3a98a57"), looks := false }, kinds := [], alts := [], laidByText := true, laidKinds := [.data, .data, .data], laidTests := true, laidLooks := .later }
def NatWordsUptoCardSaid : Prop := Claim7.holds Tryd.pinned (.plain (OpenSpec.upto natWordsSpec)) natWordsUptoCard

/-- THE SECOND FORM's CARD OF 'tansylaw3.NatAsks'. -/
def natAsksUptoCard : Claim7 := { stood := { row := natAsksUptoRow, standIns := [], harness := (true, "e12816f57894a86196110b8ab04e1835c375c9c92bcded3dcf2d94d9f3a98a57"), looks := false }, kinds := [], alts := [], laidByText := true, laidKinds := [.data, .data, .data], laidTests := true, laidLooks := .later }
def NatAsksUptoCardSaid : Prop := Claim7.holds Tryd.pinned (.plain (OpenSpec.upto natAsksSpec)) natAsksUptoCard

/-- THE SECOND FORM's CARD OF 'tansylaw3.NatLong'. -/
def natLongUptoCard : Claim7 := { stood := { row := natLongUptoRow, standIns := [], harness := (true, "e12816f57894a86196110b8ab04e1835c375c9c92bcded3dcf2d94d9f3a98a57"), looks := false }, kinds := [], alts := [], laidByText := true, laidKinds := [.data, .data, .data], laidTests := true, laidLooks := .later }
def NatLongUptoCardSaid : Prop := Claim7.holds Tryd.pinned (.plain (OpenSpec.upto natLongSpec)) natLongUptoCard

/-- THE SECOND FORM's CARD OF 'tansylaw3.NatTexts'. -/
def natTextsUptoCard : Claim7 := { stood := { row := natTextsUptoRow, standIns := [], harness := (true, "e12816f57894a86196110b8ab04e1835c375c9c92bcded3dcf2d94d9f3a98a57"), looks := false }, kinds := [], alts := [], laidByText := true, laidKinds := [.data, .data, .data], laidTests := true, laidLooks := .later }
def NatTextsUptoCardSaid : Prop := Claim7.holds Tryd.pinned (.plain (OpenSpec.upto natTextsSpec)) natTextsUptoCard

/-- THE SECOND FORM's CARD OF 'tansylaw3.NatBack'. -/
def natBackUptoCard : Claim7 := { stood := { row := natBackUptoRow, standIns := [], harness := (true, "e12816f57894a86196110b8ab04e1835c375c9c92bcded3dcf2d94d9f3a98a57"), looks := false }, kinds := [], alts := [], laidByText := true, laidKinds := [.data, .data, .data], laidTests := true, laidLooks := .later }
def NatBackUptoCardSaid : Prop := Claim7.holds Tryd.pinned (.plain (OpenSpec.upto natBackSpec)) natBackUptoCard
end Rows
end Go.Proofs.YtdpheomokeikbaaDoor
