/-
  DERIVED. GIVEN WITH THE SEED: THE CARDS: each row of YtpaehicfndkliaaGreatDoorRows.lean that lists a variable, with what it lists TIED to the program's text (the seventh form; the later family's looks); each row that meets fmt, with fmt's text TOLD by the authors' own Lean function (tested against real Go, not proved from fmt's source: count such statements apart). THE CARD IS WHAT COUNTS. Prove the row's statement (the work); the ties are given (YtpaehicfndkliaaGreatDoorTie.lean); close each card by the builder's one call (the guide's Derived/Test/ToyasCard.lean, 'card_holds'). Laid BY PROGRAM, IN A SANDBOX (cutbox-door.mjs). By AI agents, Wed Nov 11 2026. No macro, syntax, notation, axiom, sorry.
-/
import Derived.Test.YtpaehicfndkliaaGreatDoorRows
import GoSem.ClaimSeven
namespace Go.Proofs.YtpaehicfndkliaaGreatDoor
namespace Rows

/-- THE TIED CARD OF 'tansylaw9.DesugWords'. -/
def desugWordsCard : Claim7 := { stood := { row := desugWordsRow, standIns := [], harness := (true, "b2a5cb537c02118b0000dd3c69247423f7a4895e02969cece8dc0fe535c3b8e5"), looks := true }, kinds := [], alts := [], laidByText := true, laidKinds := [.data, .data, .data, .sentinel, .sentinel], laidTests := true, laidLooks := .later }
def DesugWordsCardSaid : Prop := Claim7.holds Tryz.pinned (.plain (OpenSpec.ofChange desugWordsSpec)) desugWordsCard

/-- THE TIED CARD OF 'tansylaw9.DesugPlain'. -/
def desugPlainCard : Claim7 := { stood := { row := desugPlainRow, standIns := [], harness := (true, "b2a5cb537c02118b0000dd3c69247423f7a4895e02969cece8dc0fe535c3b8e5"), looks := true }, kinds := [], alts := [], laidByText := true, laidKinds := [.data, .data, .data, .sentinel, .sentinel], laidTests := true, laidLooks := .later }
def DesugPlainCardSaid : Prop := Claim7.holds Tryz.pinned (.plain (OpenSpec.ofChange desugPlainSpec)) desugPlainCard

/-- THE TIED CARD OF 'tansylaw9.DesugAsks'. -/
def desugAsksCard : Claim7 := { stood := { row := desugAsksRow, standIns := [], harness := (true, "b2a5cb537c02118b0000dd3c69247423f7a4895e02969cece8dc0fe535c3b8e5"), looks := true }, kinds := [], alts := [], laidByText := true, laidKinds := [.data, .data, .data, .sentinel, .sentinel], laidTests := true, laidLooks := .later }
def DesugAsksCardSaid : Prop := Claim7.holds Tryz.pinned (.plain (OpenSpec.ofChange desugAsksSpec)) desugAsksCard

/-- THE TIED CARD OF 'tansylaw9.DesugTurns'. -/
def desugTurnsCard : Claim7 := { stood := { row := desugTurnsRow, standIns := [], harness := (true, "b2a5cb537c02118b0000dd3c69247423f7a4895e02969cece8dc0fe535c3b8e5"), looks := true }, kinds := [], alts := [], laidByText := true, laidKinds := [.data, .data, .data, .sentinel, .sentinel], laidTests := true, laidLooks := .later }
def DesugTurnsCardSaid : Prop := Claim7.holds Tryz.pinned (.plain (OpenSpec.ofChange desugTurnsSpec)) desugTurnsCard

/-- THE SECOND FORM's CARD OF 'tansylaw9.DesugWords'. -/
def desugWordsUptoCard : Claim7 := { stood := { row := desugWordsUptoRow, standIns := [], harness := (true, "b2a5cb537c02118b0000dd3c69247423f7a4895e02969cece8dc0fe535c3b8e5"), looks := true }, kinds := [], alts := [], laidByText := true, laidKinds := [.data, .data, .data, .sentinel, .sentinel], laidTests := true, laidLooks := .later }
def DesugWordsUptoCardSaid : Prop := Claim7.holds Tryz.pinned (.plain (OpenSpec.upto desugWordsSpec)) desugWordsUptoCard

/-- THE SECOND FORM's CARD OF 'tansylaw9.DesugPlain'. -/
def desugPlainUptoCard : Claim7 := { stood := { row := desugPlainUptoRow, standIns := [], harness := (true, "b2a5cb537c02118b0000dd3c69247423f7a4895e02969cece8dc0fe535c3b8e5"), looks := true }, kinds := [], alts := [], laidByText := true, laidKinds := [.data, .data, .data, .sentinel, .sentinel], laidTests := true, laidLooks := .later }
def DesugPlainUptoCardSaid : Prop := Claim7.holds Tryz.pinned (.plain (OpenSpec.upto desugPlainSpec)) desugPlainUptoCard

/-- THE SECOND FORM's CARD OF 'tansylaw9.DesugAsks'. -/
def desugAsksUptoCard : Claim7 := { stood := { row := desugAsksUptoRow, standIns := [], harness := (true, "b2a5cb537c02118b0000dd3c69247423f7a4895e02969cece8dc0fe535c3b8e5"), looks := true }, kinds := [], alts := [], laidByText := true, laidKinds := [.data, .data, .data, .sentinel, .sentinel], laidTests := true, laidLooks := .later }
def DesugAsksUptoCardSaid : Prop := Claim7.holds Tryz.pinned (.plain (OpenSpec.upto desugAsksSpec)) desugAsksUptoCard

/-- THE SECOND FORM's CARD OF 'tansylaw9.DesugTurns'. -/
def desugTurnsUptoCard : Claim7 := { stood := { row := desugTurnsUptoRow, standIns := [], harness := (true, "b2a5cb537c02118b0000dd3c69247423f7a4895e02969cece8dc0fe535c3b8e5"), looks := true }, kinds := [], alts := [], laidByText := true, laidKinds := [.data, .data, .data, .sentinel, .sentinel], laidTests := true, laidLooks := .later }
def DesugTurnsUptoCardSaid : Prop := Claim7.holds Tryz.pinned (.plain (OpenSpec.upto desugTurnsSpec)) desugTurnsUptoCard
end Rows
end Go.Proofs.YtpaehicfndkliaaGreatDoor
