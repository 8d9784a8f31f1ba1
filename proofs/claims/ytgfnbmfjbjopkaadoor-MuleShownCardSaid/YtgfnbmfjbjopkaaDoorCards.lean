/-
  DERIVED. GIVEN WITH THE SEED: THE CARDS: each row of YtgfnbmfjbjopkaaDoorRows.lean that lists a variable, with what it lists TIED to the program's text (the seventh form; the later family's looks); each row that meets fmt, with fmt's text TOLD by the authors' own Lean function (tested against real Go, not proved from fmt's source: count such statements apart). THE CARD IS WHAT COUNTS. Prove the row's statement (the work); the ties are given (YtgfnbmfjbjopkaaDoorTie.lean); close each card by the builder's one call (the guide's Derived/Test/ToyasCard.lean, 'card_holds'). Laid BY PROGRAM, IN A SANDBOX (cutbox-door.mjs). By AI agents, Wed Nov 11 2026. No macro, syntax, notation, axiom, sorry.
-/
import Derived.Test.YtgfnbmfjbjopkaaDoorRows
import GoSem.ClaimSeven
namespace Go.Proofs.YtgfnbmfjbjopkaaDoor
namespace Rows

/-- THE TIED CARD OF 'novaculitelaw11.MuleBest'. -/
def muleBestCard : Claim7 := { stood := { row := muleBestRow, standIns := [], harness := (true, "5b9fadd3ce3401de9bf6af4b2af329063e209b211b9ea2d43da427ffdf60aac1"), looks := false }, kinds := [], alts := [], laidByText := true, laidKinds := [.data, .data], laidTests := true, laidLooks := .later }
def MuleBestCardSaid : Prop := Claim7.holds Tryd.pinned (.plain (OpenSpec.ofChange muleBestSpec)) muleBestCard

/-- THE TIED CARD OF 'novaculitelaw11.MuleBounds'. -/
def muleBoundsCard : Claim7 := { stood := { row := muleBoundsRow, standIns := [], harness := (true, "5b9fadd3ce3401de9bf6af4b2af329063e209b211b9ea2d43da427ffdf60aac1"), looks := false }, kinds := [], alts := [], laidByText := true, laidKinds := [.data, .data], laidTests := true, laidLooks := .later }
def MuleBoundsCardSaid : Prop := Claim7.holds Tryd.pinned (.plain (OpenSpec.ofChange muleBoundsSpec)) muleBoundsCard

/-- THE TIED CARD OF 'novaculitelaw11.MuleSnow'. -/
def muleSnowCard : Claim7 := { stood := { row := muleSnowRow, standIns := [], harness := (true, "5b9fadd3ce3401de9bf6af4b2af329063e209b211b9ea2d43da427ffdf60aac1"), looks := false }, kinds := [], alts := [], laidByText := true, laidKinds := [.data, .data], laidTests := true, laidLooks := .later }
def MuleSnowCardSaid : Prop := Claim7.holds Tryd.pinned (.plain (OpenSpec.ofChange muleSnowSpec)) muleSnowCard

/-- THE TIED CARD OF 'novaculitelaw11.MuleRule'. -/
def muleRuleCard : Claim7 := { stood := { row := muleRuleRow, standIns := [], harness := (true, "5b9fadd3ce3401de9bf6af4b2af329063e209b211b9ea2d43da427ffdf60aac1"), looks := false }, kinds := [], alts := [], laidByText := true, laidKinds := [.data, .data], laidTests := true, laidLooks := .later }
def MuleRuleCardSaid : Prop := Claim7.holds Tryd.pinned (.plain (OpenSpec.ofChange muleRuleSpec)) muleRuleCard

/-- THE TIED CARD OF 'novaculitelaw11.MuleTruths'. -/
def muleTruthsCard : Claim7 := { stood := { row := muleTruthsRow, standIns := [], harness := (true, "5b9fadd3ce3401de9bf6af4b2af329063e209b211b9ea2d43da427ffdf60aac1"), looks := false }, kinds := [], alts := [], laidByText := true, laidKinds := [.data, .data], laidTests := true, laidLooks := .later }
def MuleTruthsCardSaid : Prop := Claim7.holds Tryd.pinned (.plain (OpenSpec.ofChange muleTruthsSpec)) muleTruthsCard

/-- THE TIED CARD OF 'novaculitelaw11.MuleLate'. -/
def muleLateCard : Claim7 := { stood := { row := muleLateRow, standIns := [], harness := (true, "5b9fadd3ce3401de9bf6af4b2af329063e209b211b9ea2d43da427ffdf60aac1"), looks := false }, kinds := [], alts := [], laidByText := true, laidKinds := [.data, .data], laidTests := true, laidLooks := .later }
def MuleLateCardSaid : Prop := Claim7.holds Tryd.pinned (.plain (OpenSpec.ofChange muleLateSpec)) muleLateCard

/-- THE TIED CARD OF 'novaculitelaw11.MuleLatest'. -/
def muleLatestCard : Claim7 := { stood := { row := muleLatestRow, standIns := [], harness := (true, "5b9fadd3ce3401de9bf6af4b2af329063e209b211b9ea2d43da427ffdf60aac1"), looks := false }, kinds := [], alts := [], laidByText := true, laidKinds := [.data, .data], laidTests := true, laidLooks := .later }
def MuleLatestCardSaid : Prop := Claim7.holds Tryd.pinned (.plain (OpenSpec.ofChange muleLatestSpec)) muleLatestCard

/-- THE TIED CARD OF 'novaculitelaw11.MuleNames'. -/
def muleNamesCard : Claim7 := { stood := { row := muleNamesRow, standIns := [], harness := (true, "5b9fadd3ce3401de9bf6af4b2af329063e209b211b9ea2d43da427ffdf60aac1"), looks := false }, kinds := [], alts := [], laidByText := true, laidKinds := [.data, .data], laidTests := true, laidLooks := .later }
def MuleNamesCardSaid : Prop := Claim7.holds Tryd.pinned (.plain (OpenSpec.ofChange muleNamesSpec)) muleNamesCard

/-- THE TIED CARD OF 'novaculitelaw11.MuleOrders'. -/
def muleOrdersCard : Claim7 := { stood := { row := muleOrdersRow, standIns := [], harness := (true, "5b9fadd3ce3401de9bf6af4b2af329063e209b211b9ea2d43da427ffdf60aac1"), looks := false }, kinds := [], alts := [], laidByText := true, laidKinds := [.data, .data], laidTests := true, laidLooks := .later }
def MuleOrdersCardSaid : Prop := Claim7.holds Tryd.pinned (.plain (OpenSpec.ofChange muleOrdersSpec)) muleOrdersCard

/-- THE TIED CARD OF 'novaculitelaw11.MuleLawler'. -/
def muleLawlerCard : Claim7 := { stood := { row := muleLawlerRow, standIns := [], harness := (true, "5b9fadd3ce3401de9bf6af4b2af329063e209b211b9ea2d43da427ffdf60aac1"), looks := false }, kinds := [], alts := [], laidByText := true, laidKinds := [.data, .data], laidTests := true, laidLooks := .later }
def MuleLawlerCardSaid : Prop := Claim7.holds Tryd.pinned (.plain (OpenSpec.ofChange muleLawlerSpec)) muleLawlerCard

/-- THE TIED CARD OF 'novaculitelaw11.MuleShown'. -/
def muleShownCard : Claim7 := { stood := { row := muleShownRow, standIns := [], harness := (true, "5b9fadd3ce3401de9bf6af4b2af329063e209b211b9ea2d43da427ffdf60aac1"), looks := false }, kinds := [], alts := [], laidByText := true, laidKinds := [.data, .data], laidTests := true, laidLooks := .later }
def MuleShownCardSaid : Prop := Claim7.holds Tryd.pinned (.plain (OpenSpec.ofChange muleShownSpec)) muleShownCard

/-- THE TIED CARD OF 'novaculitelaw11.MuleMore'. -/
def muleMoreCard : Claim7 := { stood := { row := muleMoreRow, standIns := [], harness := (true, "5b9fadd3ce3401de9bf6af4b2af329063e209b211b9ea2d43da427ffdf60aac1"), looks := false }, kinds := [], alts := [], laidByText := true, laidKinds := [.data, .data], laidTests := true, laidLooks := .later }
def MuleMoreCardSaid : Prop := Claim7.holds Tryd.pinned (.plain (OpenSpec.ofChange muleMoreSpec)) muleMoreCard

/-- THE TIED CARD OF 'novaculitelaw11.MuleDue'. -/
def muleDueCard : Claim7 := { stood := { row := muleDueRow, standIns := [], harness := (true, "5b9fadd3ce3401de9bf6af4b2af329063e209b211b9ea2d43da427ffdf60aac1"), looks := false }, kinds := [], alts := [], laidByText := true, laidKinds := [.data, .data], laidTests := true, laidLooks := .later }
def MuleDueCardSaid : Prop := Claim7.holds Tryd.pinned (.plain (OpenSpec.ofChange muleDueSpec)) muleDueCard

/-- THE SECOND FORM's CARD OF 'novaculitelaw11.MuleBest'. -/
def muleBestUptoCard : Claim7 := { stood := { row := muleBestUptoRow, standIns := [], harness := (true, "5b9fadd3ce3401de9bf6af4b2af329063e209b211b9ea2d43da427ffdf60aac1"), looks := false }, kinds := [], alts := [], laidByText := true, laidKinds := [.data, .data], laidTests := true, laidLooks := .later }
def MuleBestUptoCardSaid : Prop := Claim7.holds Tryd.pinned (.plain (OpenSpec.upto muleBestSpec)) muleBestUptoCard

/-- THE SECOND FORM's CARD OF 'novaculitelaw11.MuleBounds'. -/
def muleBoundsUptoCard : Claim7 := { stood := { row := muleBoundsUptoRow, standIns := [], harness := (true, "5b9fadd3ce3401de9bf6af4b2af329063e209b211b9ea2d43da427ffdf60aac1"), looks := false }, kinds := [], alts := [], laidByText := true, laidKinds := [.data, .data], laidTests := true, laidLooks := .later }
def MuleBoundsUptoCardSaid : Prop := Claim7.holds Tryd.pinned (.plain (OpenSpec.upto muleBoundsSpec)) muleBoundsUptoCard

/-- THE SECOND FORM's CARD OF 'novaculitelaw11.MuleSnow'. -/
def muleSnowUptoCard : Claim7 := { stood := { row := muleSnowUptoRow, standIns := [], harness := (true, "5b9fadd3ce3401de9bf6af4b2af329063e209b211b9ea2d43da427ffdf60aac1"), looks := false }, kinds := [], alts := [], laidByText := true, laidKinds := [.data, .data], laidTests := true, laidLooks := .later }
def MuleSnowUptoCardSaid : Prop := Claim7.holds Tryd.pinned (.plain (OpenSpec.upto muleSnowSpec)) muleSnowUptoCard

/-- THE SECOND FORM's CARD OF 'novaculitelaw11.MuleRule'. -/
def muleRuleUptoCard : Claim7 := { stood := { row := muleRuleUptoRow, standIns := [], harness := (true, "5b9fadd3ce3401de9bf6af4b2af329063e209b211b9ea2d43da427ffdf60aac1"), looks := false }, kinds := [], alts := [], laidByText := true, laidKinds := [.data, .data], laidTests := true, laidLooks := .later }
def MuleRuleUptoCardSaid : Prop := Claim7.holds Tryd.pinned (.plain (OpenSpec.upto muleRuleSpec)) muleRuleUptoCard

/-- THE SECOND FORM's CARD OF 'novaculitelaw11.MuleTruths'. -/
def muleTruthsUptoCard : Claim7 := { stood := { row := muleTruthsUptoRow, standIns := [], harness := (true, "5b9fadd3ce3401de9bf6af4b2af329063e209b211b9ea2d43da427ffdf60aac1"), looks := false }, kinds := [], alts := [], laidByText := true, laidKinds := [.data, .data], laidTests := true, laidLooks := .later }
def MuleTruthsUptoCardSaid : Prop := Claim7.holds Tryd.pinned (.plain (OpenSpec.upto muleTruthsSpec)) muleTruthsUptoCard

/-- THE SECOND FORM's CARD OF 'novaculitelaw11.MuleLate'. -/
def muleLateUptoCard : Claim7 := { stood := { row := muleLateUptoRow, standIns := [], harness := (true, "5b9fadd3ce3401de9bf6af4b2af329063e209b211b9ea2d43da427ffdf60aac1"), looks := false }, kinds := [], alts := [], laidByText := true, laidKinds := [.data, .data], laidTests := true, laidLooks := .later }
def MuleLateUptoCardSaid : Prop := Claim7.holds Tryd.pinned (.plain (OpenSpec.upto muleLateSpec)) muleLateUptoCard

/-- THE SECOND FORM's CARD OF 'novaculitelaw11.MuleLatest'. -/
def muleLatestUptoCard : Claim7 := { stood := { row := muleLatestUptoRow, standIns := [], harness := (true, "5b9fadd3ce3401de9bf6af4b2af329063e209b211b9ea2d43da427ffdf60aac1"), looks := false }, kinds := [], alts := [], laidByText := true, laidKinds := [.data, .data], laidTests := true, laidLooks := .later }
def MuleLatestUptoCardSaid : Prop := Claim7.holds Tryd.pinned (.plain (OpenSpec.upto muleLatestSpec)) muleLatestUptoCard

/-- THE SECOND FORM's CARD OF 'novaculitelaw11.MuleNames'. -/
def muleNamesUptoCard : Claim7 := { stood := { row := muleNamesUptoRow, standIns := [], harness := (true, "5b9fadd3ce3401de9bf6af4b2af329063e209b211b9ea2d43da427ffdf60aac1"), looks := false }, kinds := [], alts := [], laidByText := true, laidKinds := [.data, .data], laidTests := true, laidLooks := .later }
def MuleNamesUptoCardSaid : Prop := Claim7.holds Tryd.pinned (.plain (OpenSpec.upto muleNamesSpec)) muleNamesUptoCard

/-- THE SECOND FORM's CARD OF 'novaculitelaw11.MuleOrders'. -/
def muleOrdersUptoCard : Claim7 := { stood := { row := muleOrdersUptoRow, standIns := [], harness := (true, "5b9fadd3ce3401de9bf6af4b2af329063e209b211b9ea2d43da427ffdf60aac1"), looks := false }, kinds := [], alts := [], laidByText := true, laidKinds := [.data, .data], laidTests := true, laidLooks := .later }
def MuleOrdersUptoCardSaid : Prop := Claim7.holds Tryd.pinned (.plain (OpenSpec.upto muleOrdersSpec)) muleOrdersUptoCard

/-- THE SECOND FORM's CARD OF 'novaculitelaw11.MuleLawler'. -/
def muleLawlerUptoCard : Claim7 := { stood := { row := muleLawlerUptoRow, standIns := [], harness := (true, "5b9fadd3ce3401de9bf6af4b2af329063e209b211b9ea2d43da427ffdf60aac1"), looks := false }, kinds := [], alts := [], laidByText := true, laidKinds := [.data, .data], laidTests := true, laidLooks := .later }
def MuleLawlerUptoCardSaid : Prop := Claim7.holds Tryd.pinned (.plain (OpenSpec.upto muleLawlerSpec)) muleLawlerUptoCard

/-- THE SECOND FORM's CARD OF 'novaculitelaw11.MuleShown'. -/
def muleShownUptoCard : Claim7 := { stood := { row := muleShownUptoRow, standIns := [], harness := (true, "5b9fadd3ce3401de9bf6af4b2af329063e209b211b9ea2d43da427ffdf60aac1"), looks := false }, kinds := [], alts := [], laidByText := true, laidKinds := [.data, .data], laidTests := true, laidLooks := .later }
def MuleShownUptoCardSaid : Prop := Claim7.holds Tryd.pinned (.plain (OpenSpec.upto muleShownSpec)) muleShownUptoCard

/-- THE SECOND FORM's CARD OF 'novaculitelaw11.MuleMore'. -/
def muleMoreUptoCard : Claim7 := { stood := { row := muleMoreUptoRow, standIns := [], harness := (true, "5b9fadd3ce3401de9bf6af4b2af329063e209b211b9ea2d43da427ffdf60aac1"), looks := false }, kinds := [], alts := [], laidByText := true, laidKinds := [.data, .data], laidTests := true, laidLooks := .later }
def MuleMoreUptoCardSaid : Prop := Claim7.holds Tryd.pinned (.plain (OpenSpec.upto muleMoreSpec)) muleMoreUptoCard

/-- THE SECOND FORM's CARD OF 'novaculitelaw11.MuleDue'. -/
def muleDueUptoCard : Claim7 := { stood := { row := muleDueUptoRow, standIns := [], harness := (true, "5b9fadd3ce3401de9bf6af4b2af329063e209b211b9ea2d43da427ffdf60aac1"), looks := false }, kinds := [], alts := [], laidByText := true, laidKinds := [.data, .data], laidTests := true, laidLooks := .later }
def MuleDueUptoCardSaid : Prop := Claim7.holds Tryd.pinned (.plain (OpenSpec.upto muleDueSpec)) muleDueUptoCard
end Rows
end Go.Proofs.YtgfnbmfjbjopkaaDoor
