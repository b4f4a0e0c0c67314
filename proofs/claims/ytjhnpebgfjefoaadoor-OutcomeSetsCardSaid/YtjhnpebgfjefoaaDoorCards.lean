/-
  DERIVED. GIVEN WITH THE SEED: THE CARDS: each row of YtjhnpebgfjefoaaDoorRows.lean that lists a variable, with what it lists TIED to the program's text (the seventh form; the later family's looks); each row that meets fmt, with fmt's text TOLD by the authors' own Lean function (tested against real Go, not proved from fmt's source: count such statements apart). THE CARD IS WHAT COUNTS. Prove the row's statement (the work); the ties are given (YtjhnpebgfjefoaaDoorTie.lean); close each card by the builder's one call (the guide's Derived/Test/ToyasCard.lean, 'card_holds'). Laid BY PROGRAM, IN A SANDBOX (cutbox-door.mjs). By AI agents, Wed Nov 11 2026. No macro, syntax, notation, axiom, sorry.
-/
import Derived.Test.YtjhnpebgfjefoaaDoorRows
import GoSem.ClaimSeven
namespace Go.Proofs.YtjhnpebgfjefoaaDoor
namespace Rows

/-- THE TIED CARD OF 'ordeallaw12.OutcomeGood'. -/
def outcomeGoodCard : Claim7 := { stood := { row := outcomeGoodRow, standIns := [], harness := (true, "a250de7bf28a2f5e4a0faa285172356d0c4228d865605d970c4e66147e51ccaa"), looks := false }, kinds := [], alts := [], laidByText := true, laidKinds := [.data, .data, .data], laidTests := true, laidLooks := .later }
def OutcomeGoodCardSaid : Prop := Claim7.holds Tryd.pinned (.plain (OpenSpec.ofChange outcomeGoodSpec)) outcomeGoodCard

/-- THE TIED CARD OF 'ordeallaw12.OutcomeTells'. -/
def outcomeTellsCard : Claim7 := { stood := { row := outcomeTellsRow, standIns := [], harness := (true, "a250de7bf28a2f5e4a0faa285172356d0c4228d865605d970c4e66147e51ccaa"), looks := false }, kinds := [], alts := [], laidByText := true, laidKinds := [.data, .data, .data], laidTests := true, laidLooks := .later }
def OutcomeTellsCardSaid : Prop := Claim7.holds Tryd.pinned (.plain (OpenSpec.ofChange outcomeTellsSpec)) outcomeTellsCard

/-- THE TIED CARD OF 'ordealtop.OrdealDigits'. -/
def ordealDigitsCard : Claim7 := { stood := { row := ordealDigitsRow, standIns := [], harness := (true, "a250de7bf28a2f5e4a0faa285172356d0c4228d865605d970c4e66147e51ccaa"), looks := false }, kinds := [], alts := [], laidByText := true, laidKinds := [.data, .data, .data], laidTests := true, laidLooks := .later }
def OrdealDigitsCardSaid : Prop := Claim7.holds Tryd.pinned (.plain (OpenSpec.ofChange ordealDigitsSpec)) ordealDigitsCard

/-- THE TIED CARD OF 'ordeallaw12.OutcomeSets'. -/
def outcomeSetsCard : Claim7 := { stood := { row := outcomeSetsRow, standIns := [], harness := (true, "a250de7bf28a2f5e4a0faa285172356d0c4228d865605d970c4e66147e51ccaa"), looks := false }, kinds := [], alts := [], laidByText := true, laidKinds := [.data, .data, .data], laidTests := true, laidLooks := .later }
def OutcomeSetsCardSaid : Prop := Claim7.holds Tryd.pinned (.plain (OpenSpec.ofChange outcomeSetsSpec)) outcomeSetsCard

/-- THE TIED CARD OF 'ordeallaw12.OutcomeBoth'. -/
def outcomeBothCard : Claim7 := { stood := { row := outcomeBothRow, standIns := [], harness := (true, "a250de7bf28a2f5e4a0faa285172356d0c4228d865605d970c4e66147e51ccaa"), looks := false }, kinds := [], alts := [], laidByText := true, laidKinds := [.data, .data, .data], laidTests := true, laidLooks := .later }
def OutcomeBothCardSaid : Prop := Claim7.holds Tryd.pinned (.plain (OpenSpec.ofChange outcomeBothSpec)) outcomeBothCard

/-- THE TIED CARD OF 'ordealtop.OrdealSealed'. -/
def ordealSealedCard : Claim7 := { stood := { row := ordealSealedRow, standIns := [], harness := (true, "a250de7bf28a2f5e4a0faa285172356d0c4228d865605d970c4e66147e51ccaa"), looks := false }, kinds := [], alts := [], laidByText := true, laidKinds := [.data, .data, .data], laidTests := true, laidLooks := .later }
def OrdealSealedCardSaid : Prop := Claim7.holds Tryd.pinned (.plain (OpenSpec.ofChange ordealSealedSpec)) ordealSealedCard

/-- THE SECOND FORM's CARD OF 'ordeallaw12.OutcomeGood'. -/
def outcomeGoodUptoCard : Claim7 := { stood := { row := outcomeGoodUptoRow, standIns := [], harness := (true, "a250de7bf28a2f5e4a0faa285172356d0c4228d865605d970c4e66147e51ccaa"), looks := false }, kinds := [], alts := [], laidByText := true, laidKinds := [.data, .data, .data], laidTests := true, laidLooks := .later }
def OutcomeGoodUptoCardSaid : Prop := Claim7.holds Tryd.pinned (.plain (OpenSpec.upto outcomeGoodSpec)) outcomeGoodUptoCard

/-- THE SECOND FORM's CARD OF 'ordeallaw12.OutcomeTells'. -/
def outcomeTellsUptoCard : Claim7 := { stood := { row := outcomeTellsUptoRow, standIns := [], harness := (true, "a250de7bf28a2f5e4a0faa285172356d0c4228d865605d970c4e66147e51ccaa"), looks := false }, kinds := [], alts := [], laidByText := true, laidKinds := [.data, .data, .data], laidTests := true, laidLooks := .later }
def OutcomeTellsUptoCardSaid : Prop := Claim7.holds Tryd.pinned (.plain (OpenSpec.upto outcomeTellsSpec)) outcomeTellsUptoCard

/-- THE SECOND FORM's CARD OF 'ordealtop.OrdealDigits'. -/
def ordealDigitsUptoCard : Claim7 := { stood := { row := ordealDigitsUptoRow, standIns := [], harness := (true, "a250de7bf28a2f5e4a0faa285172356d0c4228d865605d970c4e66147e51ccaa"), looks := false }, kinds := [], alts := [], laidByText := true, laidKinds := [.data, .data, .data], laidTests := true, laidLooks := .later }
def OrdealDigitsUptoCardSaid : Prop := Claim7.holds Tryd.pinned (.plain (OpenSpec.upto ordealDigitsSpec)) ordealDigitsUptoCard

/-- THE SECOND FORM's CARD OF 'ordeallaw12.OutcomeSets'. -/
def outcomeSetsUptoCard : Claim7 := { stood := { row := outcomeSetsUptoRow, standIns := [], harness := (true, "a250de7bf28a2f5e4a0faa285172356d0c4228d865605d970c4e66147e51ccaa"), looks := false }, kinds := [], alts := [], laidByText := true, laidKinds := [.data, .data, .data], laidTests := true, laidLooks := .later }
def OutcomeSetsUptoCardSaid : Prop := Claim7.holds Tryd.pinned (.plain (OpenSpec.upto outcomeSetsSpec)) outcomeSetsUptoCard

/-- THE SECOND FORM's CARD OF 'ordeallaw12.OutcomeBoth'. -/
def outcomeBothUptoCard : Claim7 := { stood := { row := outcomeBothUptoRow, standIns := [], harness := (true, "a250de7bf28a2f5e4a0faa285172356d0c4228d865605d970c4e66147e51ccaa"), looks := false }, kinds := [], alts := [], laidByText := true, laidKinds := [.data, .data, .data], laidTests := true, laidLooks := .later }
def OutcomeBothUptoCardSaid : Prop := Claim7.holds Tryd.pinned (.plain (OpenSpec.upto outcomeBothSpec)) outcomeBothUptoCard

/-- THE SECOND FORM's CARD OF 'ordealtop.OrdealSealed'. -/
def ordealSealedUptoCard : Claim7 := { stood := { row := ordealSealedUptoRow, standIns := [], harness := (true, "a250de7bf28a2f5e4a0faa285172356d0c4228d865605d970c4e66147e51ccaa"), looks := false }, kinds := [], alts := [], laidByText := true, laidKinds := [.data, .data, .data], laidTests := true, laidLooks := .later }
def OrdealSealedUptoCardSaid : Prop := Claim7.holds Tryd.pinned (.plain (OpenSpec.upto ordealSealedSpec)) ordealSealedUptoCard
end Rows
end Go.Proofs.YtjhnpebgfjefoaaDoor
