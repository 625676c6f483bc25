/-
  DERIVED. GIVEN WITH THE SEED: THE CARDS: each row of YtiapjdbeooonjaaDoorRows.lean that lists a variable, with what it lists TIED to the program's text (the seventh form; the later family's looks); each row that meets fmt, with fmt's text TOLD by the authors' own Lean function (tested against real Go, not proved from fmt's source: count such statements apart). THE CARD IS WHAT COUNTS. Prove the row's statement (the work); the ties are given (YtiapjdbeooonjaaDoorTie.lean); close each card by the builder's one call (the guide's Derived/Test/ToyasCard.lean, 'card_holds'). Laid BY PROGRAM, IN A SANDBOX (cutbox-door.mjs). By AI agents, Wed Nov 11 2026. No macro, syntax, notation, axiom, sorry.
-/
import Derived.Test.YtiapjdbeooonjaaDoorRows
import GoSem.ClaimSeven
namespace Go.Proofs.YtiapjdbeooonjaaDoor
namespace Rows

/-- THE TIED CARD OF 'tidemarklaw01.WireTurned'. -/
def wireTurnedCard : Claim7 := { stood := { row := wireTurnedRow, standIns := [], harness := (true, "413f80c03e313343b7ef4ca09b723bd7d04a9f3415b130fe4a17db6eb9cb9bd6"), looks := false }, kinds := [], alts := [], laidByText := true, laidKinds := [.data], laidTests := true, laidLooks := .later }
def WireTurnedCardSaid : Prop := Claim7.holds Tryd.pinned (.plain (OpenSpec.ofChange wireTurnedSpec)) wireTurnedCard

/-- THE TIED CARD OF 'tidemarklaw01.WireCut'. -/
def wireCutCard : Claim7 := { stood := { row := wireCutRow, standIns := [], harness := (true, "413f80c03e313343b7ef4ca09b723bd7d04a9f3415b130fe4a17db6eb9cb9bd6"), looks := false }, kinds := [], alts := [], laidByText := true, laidKinds := [.data], laidTests := true, laidLooks := .later }
def WireCutCardSaid : Prop := Claim7.holds Tryd.pinned (.plain (OpenSpec.ofChange wireCutSpec)) wireCutCard

/-- THE TIED CARD OF 'tidemarklaw01.WireFrames'. -/
def wireFramesCard : Claim7 := { stood := { row := wireFramesRow, standIns := [], harness := (true, "413f80c03e313343b7ef4ca09b723bd7d04a9f3415b130fe4a17db6eb9cb9bd6"), looks := false }, kinds := [], alts := [], laidByText := true, laidKinds := [.data], laidTests := true, laidLooks := .later }
def WireFramesCardSaid : Prop := Claim7.holds Tryd.pinned (.plain (OpenSpec.ofChange wireFramesSpec)) wireFramesCard

/-- THE TIED CARD OF 'tidemarklaw01.WireForm'. -/
def wireFormCard : Claim7 := { stood := { row := wireFormRow, standIns := [], harness := (true, "413f80c03e313343b7ef4ca09b723bd7d04a9f3415b130fe4a17db6eb9cb9bd6"), looks := false }, kinds := [], alts := [], laidByText := true, laidKinds := [.data], laidTests := true, laidLooks := .later }
def WireFormCardSaid : Prop := Claim7.holds Tryd.pinned (.plain (OpenSpec.ofChange wireFormSpec)) wireFormCard

/-- THE TIED CARD OF 'tidemarklaw01.WireOrder'. -/
def wireOrderCard : Claim7 := { stood := { row := wireOrderRow, standIns := [], harness := (true, "413f80c03e313343b7ef4ca09b723bd7d04a9f3415b130fe4a17db6eb9cb9bd6"), looks := false }, kinds := [], alts := [], laidByText := true, laidKinds := [.data], laidTests := true, laidLooks := .later }
def WireOrderCardSaid : Prop := Claim7.holds Tryd.pinned (.plain (OpenSpec.ofChange wireOrderSpec)) wireOrderCard

/-- THE TIED CARD OF 'tidemarklaw01.WireNumbers'. -/
def wireNumbersCard : Claim7 := { stood := { row := wireNumbersRow, standIns := [], harness := (true, "413f80c03e313343b7ef4ca09b723bd7d04a9f3415b130fe4a17db6eb9cb9bd6"), looks := false }, kinds := [], alts := [], laidByText := true, laidKinds := [.data], laidTests := true, laidLooks := .later }
def WireNumbersCardSaid : Prop := Claim7.holds Tryd.pinned (.plain (OpenSpec.ofChange wireNumbersSpec)) wireNumbersCard

/-- THE TIED CARD OF 'tidemarklaw01.WireTexts'. -/
def wireTextsCard : Claim7 := { stood := { row := wireTextsRow, standIns := [], harness := (true, "413f80c03e313343b7ef4ca09b723bd7d04a9f3415b130fe4a17db6eb9cb9bd6"), looks := false }, kinds := [], alts := [], laidByText := true, laidKinds := [.data], laidTests := true, laidLooks := .later }
def WireTextsCardSaid : Prop := Claim7.holds Tryd.pinned (.plain (OpenSpec.ofChange wireTextsSpec)) wireTextsCard

/-- THE TIED CARD OF 'tidemarklaw01.WireNexts'. -/
def wireNextsCard : Claim7 := { stood := { row := wireNextsRow, standIns := [], harness := (true, "413f80c03e313343b7ef4ca09b723bd7d04a9f3415b130fe4a17db6eb9cb9bd6"), looks := false }, kinds := [], alts := [], laidByText := true, laidKinds := [.data], laidTests := true, laidLooks := .later }
def WireNextsCardSaid : Prop := Claim7.holds Tryd.pinned (.plain (OpenSpec.ofChange wireNextsSpec)) wireNextsCard

/-- THE TIED CARD OF 'tidemarklaw01.WireBack'. -/
def wireBackCard : Claim7 := { stood := { row := wireBackRow, standIns := [], harness := (true, "413f80c03e313343b7ef4ca09b723bd7d04a9f3415b130fe4a17db6eb9cb9bd6"), looks := false }, kinds := [], alts := [], laidByText := true, laidKinds := [.data], laidTests := true, laidLooks := .later }
def WireBackCardSaid : Prop := Claim7.holds Tryd.pinned (.plain (OpenSpec.ofChange wireBackSpec)) wireBackCard

/-- THE TIED CARD OF 'tidemarklaw01.WireNobody'. -/
def wireNobodyCard : Claim7 := { stood := { row := wireNobodyRow, standIns := [], harness := (true, "413f80c03e313343b7ef4ca09b723bd7d04a9f3415b130fe4a17db6eb9cb9bd6"), looks := false }, kinds := [], alts := [], laidByText := true, laidKinds := [.data], laidTests := true, laidLooks := .later }
def WireNobodyCardSaid : Prop := Claim7.holds Tryd.pinned (.plain (OpenSpec.ofChange wireNobodySpec)) wireNobodyCard

/-- THE TIED CARD OF 'tidemarklaw01.WireReads'. -/
def wireReadsCard : Claim7 := { stood := { row := wireReadsRow, standIns := [], harness := (true, "413f80c03e313343b7ef4ca09b723bd7d04a9f3415b130fe4a17db6eb9cb9bd6"), looks := false }, kinds := [], alts := [], laidByText := true, laidKinds := [.data], laidTests := true, laidLooks := .later }
def WireReadsCardSaid : Prop := Claim7.holds Tryd.pinned (.plain (OpenSpec.ofChange wireReadsSpec)) wireReadsCard

/-- THE SECOND FORM's CARD OF 'tidemarklaw01.WireTurned'. -/
def wireTurnedUptoCard : Claim7 := { stood := { row := wireTurnedUptoRow, standIns := [], harness := (true, "413f80c03e313343b7ef4ca09b723bd7d04a9f3415b130fe4a17db6eb9cb9bd6"), looks := false }, kinds := [], alts := [], laidByText := true, laidKinds := [.data], laidTests := true, laidLooks := .later }
def WireTurnedUptoCardSaid : Prop := Claim7.holds Tryd.pinned (.plain (OpenSpec.upto wireTurnedSpec)) wireTurnedUptoCard

/-- THE SECOND FORM's CARD OF 'tidemarklaw01.WireCut'. -/
def wireCutUptoCard : Claim7 := { stood := { row := wireCutUptoRow, standIns := [], harness := (true, "413f80c03e313343b7ef4ca09b723bd7d04a9f3415b130fe4a17db6eb9cb9bd6"), looks := false }, kinds := [], alts := [], laidByText := true, laidKinds := [.data], laidTests := true, laidLooks := .later }
def WireCutUptoCardSaid : Prop := Claim7.holds Tryd.pinned (.plain (OpenSpec.upto wireCutSpec)) wireCutUptoCard

/-- THE SECOND FORM's CARD OF 'tidemarklaw01.WireFrames'. -/
def wireFramesUptoCard : Claim7 := { stood := { row := wireFramesUptoRow, standIns := [], harness := (true, "413f80c03e313343b7ef4ca09b723bd7d04a9f3415b130fe4a17db6eb9cb9bd6"), looks := false }, kinds := [], alts := [], laidByText := true, laidKinds := [.data], laidTests := true, laidLooks := .later }
def WireFramesUptoCardSaid : Prop := Claim7.holds Tryd.pinned (.plain (OpenSpec.upto wireFramesSpec)) wireFramesUptoCard

/-- THE SECOND FORM's CARD OF 'tidemarklaw01.WireForm'. -/
def wireFormUptoCard : Claim7 := { stood := { row := wireFormUptoRow, standIns := [], harness := (true, "413f80c03e313343b7ef4ca09b723bd7d04a9f3415b130fe4a17db6eb9cb9bd6"), looks := false }, kinds := [], alts := [], laidByText := true, laidKinds := [.data], laidTests := true, laidLooks := .later }
def WireFormUptoCardSaid : Prop := Claim7.holds Tryd.pinned (.plain (OpenSpec.upto wireFormSpec)) wireFormUptoCard

/-- THE SECOND FORM's CARD OF 'tidemarklaw01.WireOrder'. -/
def wireOrderUptoCard : Claim7 := { stood := { row := wireOrderUptoRow, standIns := [], harness := (true, "413f80c03e313343b7ef4ca09b723bd7d04a9f3415b130fe4a17db6eb9cb9bd6"), looks := false }, kinds := [], alts := [], laidByText := true, laidKinds := [.data], laidTests := true, laidLooks := .later }
def WireOrderUptoCardSaid : Prop := Claim7.holds Tryd.pinned (.plain (OpenSpec.upto wireOrderSpec)) wireOrderUptoCard

/-- THE SECOND FORM's CARD OF 'tidemarklaw01.WireNumbers'. -/
def wireNumbersUptoCard : Claim7 := { stood := { row := wireNumbersUptoRow, standIns := [], harness := (true, "413f80c03e313343b7ef4ca09b723bd7d04a9f3415b130fe4a17db6eb9cb9bd6"), looks := false }, kinds := [], alts := [], laidByText := true, laidKinds := [.data], laidTests := true, laidLooks := .later }
def WireNumbersUptoCardSaid : Prop := Claim7.holds Tryd.pinned (.plain (OpenSpec.upto wireNumbersSpec)) wireNumbersUptoCard

/-- THE SECOND FORM's CARD OF 'tidemarklaw01.WireTexts'. -/
def wireTextsUptoCard : Claim7 := { stood := { row := wireTextsUptoRow, standIns := [], harness := (true, "413f80c03e313343b7ef4ca09b723bd7d04a9f3415b130fe4a17db6eb9cb9bd6"), looks := false }, kinds := [], alts := [], laidByText := true, laidKinds := [.data], laidTests := true, laidLooks := .later }
def WireTextsUptoCardSaid : Prop := Claim7.holds Tryd.pinned (.plain (OpenSpec.upto wireTextsSpec)) wireTextsUptoCard

/-- THE SECOND FORM's CARD OF 'tidemarklaw01.WireNexts'. -/
def wireNextsUptoCard : Claim7 := { stood := { row := wireNextsUptoRow, standIns := [], harness := (true, "413f80c03e313343b7ef4ca09b723bd7d04a9f3415b130fe4a17db6eb9cb9bd6"), looks := false }, kinds := [], alts := [], laidByText := true, laidKinds := [.data], laidTests := true, laidLooks := .later }
def WireNextsUptoCardSaid : Prop := Claim7.holds Tryd.pinned (.plain (OpenSpec.upto wireNextsSpec)) wireNextsUptoCard

/-- THE SECOND FORM's CARD OF 'tidemarklaw01.WireBack'. -/
def wireBackUptoCard : Claim7 := { stood := { row := wireBackUptoRow, standIns := [], harness := (true, "413f80c03e313343b7ef4ca09b723bd7d04a9f3415b130fe4a17db6eb9cb9bd6"), looks := false }, kinds := [], alts := [], laidByText := true, laidKinds := [.data], laidTests := true, laidLooks := .later }
def WireBackUptoCardSaid : Prop := Claim7.holds Tryd.pinned (.plain (OpenSpec.upto wireBackSpec)) wireBackUptoCard

/-- THE SECOND FORM's CARD OF 'tidemarklaw01.WireNobody'. -/
def wireNobodyUptoCard : Claim7 := { stood := { row := wireNobodyUptoRow, standIns := [], harness := (true, "413f80c03e313343b7ef4ca09b723bd7d04a9f3415b130fe4a17db6eb9cb9bd6"), looks := false }, kinds := [], alts := [], laidByText := true, laidKinds := [.data], laidTests := true, laidLooks := .later }
def WireNobodyUptoCardSaid : Prop := Claim7.holds Tryd.pinned (.plain (OpenSpec.upto wireNobodySpec)) wireNobodyUptoCard

/-- THE SECOND FORM's CARD OF 'tidemarklaw01.WireReads'. -/
def wireReadsUptoCard : Claim7 := { stood := { row := wireReadsUptoRow, standIns := [], harness := (true, "413f80c03e313343b7ef4ca09b723bd7d04a9f3415b130fe4a17db6eb9cb9bd6"), looks := false }, kinds := [], alts := [], laidByText := true, laidKinds := [.data], laidTests := true, laidLooks := .later }
def WireReadsUptoCardSaid : Prop := Claim7.holds Tryd.pinned (.plain (OpenSpec.upto wireReadsSpec)) wireReadsUptoCard
end Rows
end Go.Proofs.YtiapjdbeooonjaaDoor
