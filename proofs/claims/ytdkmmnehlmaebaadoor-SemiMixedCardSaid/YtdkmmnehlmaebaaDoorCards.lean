/-
  DERIVED. GIVEN WITH THE SEED: THE CARDS: each row of YtdkmmnehlmaebaaDoorRows.lean that lists a variable, with what it lists TIED to the program's text (the seventh form; the later family's looks); each row that meets fmt, with fmt's text TOLD by the authors' own Lean function (tested against real Go, not proved from fmt's source: count such statements apart). THE CARD IS WHAT COUNTS. Prove the row's statement (the work); the ties are given (YtdkmmnehlmaebaaDoorTie.lean); close each card by the builder's one call (the guide's Derived/Test/ToyasCard.lean, 'card_holds'). Laid BY PROGRAM, IN A SANDBOX (cutbox-door.mjs). By AI agents, Wed Nov 11 2026. No macro, syntax, notation, axiom, sorry.
-/
import Derived.Test.YtdkmmnehlmaebaaDoorRows
import GoSem.ClaimSeven
namespace Go.Proofs.YtdkmmnehlmaebaaDoor
namespace Rows

/-- THE TIED CARD OF 'tansylaw4.SemiStars'. -/
def semiStarsCard : Claim7 := { stood := { row := semiStarsRow, standIns := [], harness := (true, "7bb788e8b64e8f30f470ff849f92afbca281fcfcc498a41930ba0fc5a69fa978"), looks := true }, kinds := [], alts := [], laidByText := true, laidKinds := [.data, .data, .data], laidTests := true, laidLooks := .later }
def SemiStarsCardSaid : Prop := Claim7.holds Tryd.pinned (.plain (OpenSpec.ofChange semiStarsSpec)) semiStarsCard

/-- THE TIED CARD OF 'tansylaw1.FloBack'. -/
def floBackCard : Claim7 := { stood := { row := floBackRow, standIns := [], harness := (true, "7bb788e8b64e8f30f470ff849f92afbca281fcfcc498a41930ba0fc5a69fa978"), looks := true }, kinds := [], alts := [], laidByText := true, laidKinds := [.data, .data, .data, .sentinel, .sentinel], laidTests := true, laidLooks := .later }
def FloBackCardSaid : Prop := Claim7.holds Tryd.pinned (.plain (OpenSpec.ofChange floBackSpec)) floBackCard

/-- THE TIED CARD OF 'tansylaw1.FloOrder'. -/
def floOrderCard : Claim7 := { stood := { row := floOrderRow, standIns := [], harness := (true, "7bb788e8b64e8f30f470ff849f92afbca281fcfcc498a41930ba0fc5a69fa978"), looks := true }, kinds := [], alts := [], laidByText := true, laidKinds := [.data, .data, .data, .sentinel, .sentinel], laidTests := true, laidLooks := .later }
def FloOrderCardSaid : Prop := Claim7.holds Tryd.pinned (.plain (OpenSpec.ofChange floOrderSpec)) floOrderCard

/-- THE TIED CARD OF 'tansylaw1.FloReads'. -/
def floReadsCard : Claim7 := { stood := { row := floReadsRow, standIns := [], harness := (true, "7bb788e8b64e8f30f470ff849f92afbca281fcfcc498a41930ba0fc5a69fa978"), looks := true }, kinds := [], alts := [], laidByText := true, laidKinds := [.data, .data, .data, .sentinel, .sentinel], laidTests := true, laidLooks := .later }
def FloReadsCardSaid : Prop := Claim7.holds Tryd.pinned (.plain (OpenSpec.ofChange floReadsSpec)) floReadsCard

/-- THE TIED CARD OF 'tansylaw1.FloEnds'. -/
def floEndsCard : Claim7 := { stood := { row := floEndsRow, standIns := [], harness := (true, "7bb788e8b64e8f30f470ff849f92afbca281fcfcc498a41930ba0fc5a69fa978"), looks := true }, kinds := [], alts := [], laidByText := true, laidKinds := [.data, .data, .data, .sentinel, .sentinel], laidTests := true, laidLooks := .later }
def FloEndsCardSaid : Prop := Claim7.holds Tryd.pinned (.plain (OpenSpec.ofChange floEndsSpec)) floEndsCard

/-- THE TIED CARD OF 'tansylaw4.SemiBetter'. -/
def semiBetterCard : Claim7 := { stood := { row := semiBetterRow, standIns := [], harness := (true, "7bb788e8b64e8f30f470ff849f92afbca281fcfcc498a41930ba0fc5a69fa978"), looks := true }, kinds := [], alts := [], laidByText := true, laidKinds := [.data, .data, .data], laidTests := true, laidLooks := .later }
def SemiBetterCardSaid : Prop := Claim7.holds Tryd.pinned (.plain (OpenSpec.ofChange semiBetterSpec)) semiBetterCard

/-- THE TIED CARD OF 'tansylaw4.SemiMixed'. -/
def semiMixedCard : Claim7 := { stood := { row := semiMixedRow, standIns := [], harness := (true, "7bb788e8b64e8f30f470ff849f92afbca281fcfcc498a41930ba0fc5a69fa978"), looks := true }, kinds := [], alts := [], laidByText := true, laidKinds := [.data, .data, .data], laidTests := true, laidLooks := .later }
def SemiMixedCardSaid : Prop := Claim7.holds Tryd.pinned (.plain (OpenSpec.ofChange semiMixedSpec)) semiMixedCard

/-- THE TIED CARD OF 'tansylaw1.FloAsks'. -/
def floAsksCard : Claim7 := { stood := { row := floAsksRow, standIns := [], harness := (true, "7bb788e8b64e8f30f470ff849f92afbca281fcfcc498a41930ba0fc5a69fa978"), looks := true }, kinds := [], alts := [], laidByText := true, laidKinds := [.data, .data, .data, .sentinel, .sentinel], laidTests := true, laidLooks := .later }
def FloAsksCardSaid : Prop := Claim7.holds Tryd.pinned (.plain (OpenSpec.ofChange floAsksSpec)) floAsksCard

/-- THE TIED CARD OF 'tansylaw1.FloWeights'. -/
def floWeightsCard : Claim7 := { stood := { row := floWeightsRow, standIns := [], harness := (true, "7bb788e8b64e8f30f470ff849f92afbca281fcfcc498a41930ba0fc5a69fa978"), looks := true }, kinds := [], alts := [], laidByText := true, laidKinds := [.data, .data, .data, .sentinel, .sentinel], laidTests := true, laidLooks := .later }
def FloWeightsCardSaid : Prop := Claim7.holds Tryd.pinned (.plain (OpenSpec.ofChange floWeightsSpec)) floWeightsCard

/-- THE SECOND FORM's CARD OF 'tansylaw4.SemiStars'. -/
def semiStarsUptoCard : Claim7 := { stood := { row := semiStarsUptoRow, standIns := [], harness := (true, "7bb788e8b64e8f30f470ff849f92afbca281fcfcc498a41930ba0fc5a69fa978"), looks := true }, kinds := [], alts := [], laidByText := true, laidKinds := [.data, .data, .data], laidTests := true, laidLooks := .later }
def SemiStarsUptoCardSaid : Prop := Claim7.holds Tryd.pinned (.plain (OpenSpec.upto semiStarsSpec)) semiStarsUptoCard

/-- THE SECOND FORM's CARD OF 'tansylaw1.FloBack'. -/
def floBackUptoCard : Claim7 := { stood := { row := floBackUptoRow, standIns := [], harness := (true, "7bb788e8b64e8f30f470ff849f92afbca281fcfcc498a41930ba0fc5a69fa978"), looks := true }, kinds := [], alts := [], laidByText := true, laidKinds := [.data, .data, .data, .sentinel, .sentinel], laidTests := true, laidLooks := .later }
def FloBackUptoCardSaid : Prop := Claim7.holds Tryd.pinned (.plain (OpenSpec.upto floBackSpec)) floBackUptoCard

/-- THE SECOND FORM's CARD OF 'tansylaw1.FloOrder'. -/
def floOrderUptoCard : Claim7 := { stood := { row := floOrderUptoRow, standIns := [], harness := (true, "7bb788e8b64e8f30f470ff849f92afbca281fcfcc498a41930ba0fc5a69fa978"), looks := true }, kinds := [], alts := [], laidByText := true, laidKinds := [.data, .data, .data, .sentinel, .sentinel], laidTests := true, laidLooks := .later }
def FloOrderUptoCardSaid : Prop := Claim7.holds Tryd.pinned (.plain (OpenSpec.upto floOrderSpec)) floOrderUptoCard

/-- THE SECOND FORM's CARD OF 'tansylaw1.FloReads'. -/
def floReadsUptoCard : Claim7 := { stood := { row := floReadsUptoRow, standIns := [], harness := (true, "7bb788e8b64e8f30f470ff849f92afbca281fcfcc498a41930ba0fc5a69fa978"), looks := true }, kinds := [], alts := [], laidByText := true, laidKinds := [.data, .data, .data, .sentinel, .sentinel], laidTests := true, laidLooks := .later }
def FloReadsUptoCardSaid : Prop := Claim7.holds Tryd.pinned (.plain (OpenSpec.upto floReadsSpec)) floReadsUptoCard

/-- THE SECOND FORM's CARD OF 'tansylaw1.FloEnds'. -/
def floEndsUptoCard : Claim7 := { stood := { row := floEndsUptoRow, standIns := [], harness := (true, "7bb788e8b64e8f30f470ff849f92afbca281fcfcc498a41930ba0fc5a69fa978"), looks := true }, kinds := [], alts := [], laidByText := true, laidKinds := [.data, .data, .data, .sentinel, .sentinel], laidTests := true, laidLooks := .later }
def FloEndsUptoCardSaid : Prop := Claim7.holds Tryd.pinned (.plain (OpenSpec.upto floEndsSpec)) floEndsUptoCard

/-- THE SECOND FORM's CARD OF 'tansylaw4.SemiBetter'. -/
def semiBetterUptoCard : Claim7 := { stood := { row := semiBetterUptoRow, standIns := [], harness := (true, "7bb788e8b64e8f30f470ff849f92afbca281fcfcc498a41930ba0fc5a69fa978"), looks := true }, kinds := [], alts := [], laidByText := true, laidKinds := [.data, .data, .data], laidTests := true, laidLooks := .later }
def SemiBetterUptoCardSaid : Prop := Claim7.holds Tryd.pinned (.plain (OpenSpec.upto semiBetterSpec)) semiBetterUptoCard

/-- THE SECOND FORM's CARD OF 'tansylaw4.SemiMixed'. -/
def semiMixedUptoCard : Claim7 := { stood := { row := semiMixedUptoRow, standIns := [], harness := (true, "7bb788e8b64e8f30f470ff849f92afbca281fcfcc498a41930ba0fc5a69fa978"), looks := true }, kinds := [], alts := [], laidByText := true, laidKinds := [.data, .data, .data], laidTests := true, laidLooks := .later }
def SemiMixedUptoCardSaid : Prop := Claim7.holds Tryd.pinned (.plain (OpenSpec.upto semiMixedSpec)) semiMixedUptoCard

/-- THE SECOND FORM's CARD OF 'tansylaw1.FloAsks'. -/
def floAsksUptoCard : Claim7 := { stood := { row := floAsksUptoRow, standIns := [], harness := (true, "7bb788e8b64e8f30f470ff849f92afbca281fcfcc498a41930ba0fc5a69fa978"), looks := true }, kinds := [], alts := [], laidByText := true, laidKinds := [.data, .data, .data, .sentinel, .sentinel], laidTests := true, laidLooks := .later }
def FloAsksUptoCardSaid : Prop := Claim7.holds Tryd.pinned (.plain (OpenSpec.upto floAsksSpec)) floAsksUptoCard

/-- THE SECOND FORM's CARD OF 'tansylaw1.FloWeights'. -/
def floWeightsUptoCard : Claim7 := { stood := { row := floWeightsUptoRow, standIns := [], harness := (true, "7bb788e8b64e8f30f470ff849f92afbca281fcfcc498a41930ba0fc5a69fa978"), looks := true }, kinds := [], alts := [], laidByText := true, laidKinds := [.data, .data, .data, .sentinel, .sentinel], laidTests := true, laidLooks := .later }
def FloWeightsUptoCardSaid : Prop := Claim7.holds Tryd.pinned (.plain (OpenSpec.upto floWeightsSpec)) floWeightsUptoCard
end Rows
end Go.Proofs.YtdkmmnehlmaebaaDoor
