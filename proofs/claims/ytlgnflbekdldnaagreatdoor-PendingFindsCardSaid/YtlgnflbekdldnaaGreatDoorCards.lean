/-
  DERIVED. GIVEN WITH THE SEED: THE CARDS: each row of YtlgnflbekdldnaaGreatDoorRows.lean that lists a variable, with what it lists TIED to the program's text (the seventh form; the later family's looks); each row that meets fmt, with fmt's text TOLD by the authors' own Lean function (tested against real Go, not proved from fmt's source: count such statements apart). THE CARD IS WHAT COUNTS. Prove the row's statement (the work); the ties are given (YtlgnflbekdldnaaGreatDoorTie.lean); close each card by the builder's one call (the guide's Derived/Test/ToyasCard.lean, 'card_holds'). Laid BY PROGRAM, IN A SANDBOX (cutbox-door.mjs). By AI agents, Wed Nov 11 2026. No macro, syntax, notation, axiom, sorry.
-/
import Derived.Test.YtlgnflbekdldnaaGreatDoorRows
import GoSem.ClaimSeven
namespace Go.Proofs.YtlgnflbekdldnaaGreatDoor
namespace Rows

/-- THE TIED CARD OF 'workflowlaw25.PendingSteps'. -/
def pendingStepsCard : Claim7 := { stood := { row := pendingStepsRow, standIns := [], harness := (true, "869676bc7128f833b024f6b26f1dfe22299415916c71b51e393066324a17f590"), looks := true }, kinds := [], alts := [], laidByText := true, laidKinds := [.data, .data, .data, .sentinel, .sentinel], laidTests := true, laidLooks := .later }
def PendingStepsCardSaid : Prop := Claim7.holds Tryz.pinned (.plain (OpenSpec.ofChange pendingStepsSpec)) pendingStepsCard

/-- THE TIED CARD OF 'workflowlaw25.PendingOrder'. -/
def pendingOrderCard : Claim7 := { stood := { row := pendingOrderRow, standIns := [], harness := (true, "869676bc7128f833b024f6b26f1dfe22299415916c71b51e393066324a17f590"), looks := true }, kinds := [], alts := [], laidByText := true, laidKinds := [.data, .data, .data, .sentinel, .sentinel], laidTests := true, laidLooks := .later }
def PendingOrderCardSaid : Prop := Claim7.holds Tryz.pinned (.plain (OpenSpec.ofChange pendingOrderSpec)) pendingOrderCard

/-- THE TIED CARD OF 'workflowlaw25.PendingBare'. -/
def pendingBareCard : Claim7 := { stood := { row := pendingBareRow, standIns := [], harness := (true, "869676bc7128f833b024f6b26f1dfe22299415916c71b51e393066324a17f590"), looks := true }, kinds := [], alts := [], laidByText := true, laidKinds := [.data, .data, .data, .sentinel, .sentinel], laidTests := true, laidLooks := .later }
def PendingBareCardSaid : Prop := Claim7.holds Tryz.pinned (.plain (OpenSpec.ofChange pendingBareSpec)) pendingBareCard

/-- THE TIED CARD OF 'workflowlaw25.PendingFinds'. -/
def pendingFindsCard : Claim7 := { stood := { row := pendingFindsRow, standIns := [], harness := (true, "869676bc7128f833b024f6b26f1dfe22299415916c71b51e393066324a17f590"), looks := true }, kinds := [], alts := [], laidByText := true, laidKinds := [.data, .data, .data, .sentinel, .sentinel], laidTests := true, laidLooks := .later }
def PendingFindsCardSaid : Prop := Claim7.holds Tryz.pinned (.plain (OpenSpec.ofChange pendingFindsSpec)) pendingFindsCard

/-- THE TIED CARD OF 'workflowlaw32.SignalsOnce'. -/
def signalsOnceCard : Claim7 := { stood := { row := signalsOnceRow, standIns := [], harness := (true, "869676bc7128f833b024f6b26f1dfe22299415916c71b51e393066324a17f590"), looks := true }, kinds := [], alts := [], laidByText := true, laidKinds := [.data, .data, .data, .sentinel, .sentinel], laidTests := true, laidLooks := .later }
def SignalsOnceCardSaid : Prop := Claim7.holds Tryz.pinned (.plain (OpenSpec.ofChange signalsOnceSpec)) signalsOnceCard

/-- THE TIED CARD OF 'workflowlaw32.SignalsOrder'. -/
def signalsOrderCard : Claim7 := { stood := { row := signalsOrderRow, standIns := [], harness := (true, "869676bc7128f833b024f6b26f1dfe22299415916c71b51e393066324a17f590"), looks := true }, kinds := [], alts := [], laidByText := true, laidKinds := [.data, .data, .data, .sentinel, .sentinel], laidTests := true, laidLooks := .later }
def SignalsOrderCardSaid : Prop := Claim7.holds Tryz.pinned (.plain (OpenSpec.ofChange signalsOrderSpec)) signalsOrderCard

/-- THE TIED CARD OF 'workflowlaw26.ApplyCheck'. -/
def applyCheckCard : Claim7 := { stood := { row := applyCheckRow, standIns := [], harness := (true, "869676bc7128f833b024f6b26f1dfe22299415916c71b51e393066324a17f590"), looks := true }, kinds := [], alts := [], laidByText := true, laidKinds := [.data, .data, .data, .sentinel, .sentinel], laidTests := true, laidLooks := .later }
def ApplyCheckCardSaid : Prop := Claim7.holds Tryz.pinned (.plain (OpenSpec.ofChange applyCheckSpec)) applyCheckCard

/-- THE TIED CARD OF 'workflowlaw26.ApplyEvents'. -/
def applyEventsCard : Claim7 := { stood := { row := applyEventsRow, standIns := [], harness := (true, "869676bc7128f833b024f6b26f1dfe22299415916c71b51e393066324a17f590"), looks := true }, kinds := [], alts := [], laidByText := true, laidKinds := [.data, .data, .data, .sentinel, .sentinel], laidTests := true, laidLooks := .later }
def ApplyEventsCardSaid : Prop := Claim7.holds Tryz.pinned (.plain (OpenSpec.ofChange applyEventsSpec)) applyEventsCard

/-- THE TIED CARD OF 'workflowlaw26.ApplyDone'. -/
def applyDoneCard : Claim7 := { stood := { row := applyDoneRow, standIns := [], harness := (true, "869676bc7128f833b024f6b26f1dfe22299415916c71b51e393066324a17f590"), looks := true }, kinds := [], alts := [], laidByText := true, laidKinds := [.data, .data, .data, .sentinel, .sentinel], laidTests := true, laidLooks := .later }
def ApplyDoneCardSaid : Prop := Claim7.holds Tryz.pinned (.plain (OpenSpec.ofChange applyDoneSpec)) applyDoneCard

/-- THE TIED CARD OF 'workflowlaw26.ApplySplit'. -/
def applySplitCard : Claim7 := { stood := { row := applySplitRow, standIns := [], harness := (true, "869676bc7128f833b024f6b26f1dfe22299415916c71b51e393066324a17f590"), looks := true }, kinds := [], alts := [], laidByText := true, laidKinds := [.data, .data, .data, .sentinel, .sentinel], laidTests := true, laidLooks := .later }
def ApplySplitCardSaid : Prop := Claim7.holds Tryz.pinned (.plain (OpenSpec.ofChange applySplitSpec)) applySplitCard

/-- THE TIED CARD OF 'workflowlaw26.ApplyFollows'. -/
def applyFollowsCard : Claim7 := { stood := { row := applyFollowsRow, standIns := [], harness := (true, "869676bc7128f833b024f6b26f1dfe22299415916c71b51e393066324a17f590"), looks := true }, kinds := [], alts := [], laidByText := true, laidKinds := [.data, .data, .data, .sentinel, .sentinel], laidTests := true, laidLooks := .later }
def ApplyFollowsCardSaid : Prop := Claim7.holds Tryz.pinned (.plain (OpenSpec.ofChange applyFollowsSpec)) applyFollowsCard

/-- THE SECOND FORM's CARD OF 'workflowlaw25.PendingSteps'. -/
def pendingStepsUptoCard : Claim7 := { stood := { row := pendingStepsUptoRow, standIns := [], harness := (true, "869676bc7128f833b024f6b26f1dfe22299415916c71b51e393066324a17f590"), looks := true }, kinds := [], alts := [], laidByText := true, laidKinds := [.data, .data, .data, .sentinel, .sentinel], laidTests := true, laidLooks := .later }
def PendingStepsUptoCardSaid : Prop := Claim7.holds Tryz.pinned (.plain (OpenSpec.upto pendingStepsSpec)) pendingStepsUptoCard

/-- THE SECOND FORM's CARD OF 'workflowlaw25.PendingOrder'. -/
def pendingOrderUptoCard : Claim7 := { stood := { row := pendingOrderUptoRow, standIns := [], harness := (true, "869676bc7128f833b024f6b26f1dfe22299415916c71b51e393066324a17f590"), looks := true }, kinds := [], alts := [], laidByText := true, laidKinds := [.data, .data, .data, .sentinel, .sentinel], laidTests := true, laidLooks := .later }
def PendingOrderUptoCardSaid : Prop := Claim7.holds Tryz.pinned (.plain (OpenSpec.upto pendingOrderSpec)) pendingOrderUptoCard

/-- THE SECOND FORM's CARD OF 'workflowlaw25.PendingBare'. -/
def pendingBareUptoCard : Claim7 := { stood := { row := pendingBareUptoRow, standIns := [], harness := (true, "869676bc7128f833b024f6b26f1dfe22299415916c71b51e393066324a17f590"), looks := true }, kinds := [], alts := [], laidByText := true, laidKinds := [.data, .data, .data, .sentinel, .sentinel], laidTests := true, laidLooks := .later }
def PendingBareUptoCardSaid : Prop := Claim7.holds Tryz.pinned (.plain (OpenSpec.upto pendingBareSpec)) pendingBareUptoCard

/-- THE SECOND FORM's CARD OF 'workflowlaw25.PendingFinds'. -/
def pendingFindsUptoCard : Claim7 := { stood := { row := pendingFindsUptoRow, standIns := [], harness := (true, "869676bc7128f833b024f6b26f1dfe22299415916c71b51e393066324a17f590"), looks := true }, kinds := [], alts := [], laidByText := true, laidKinds := [.data, .data, .data, .sentinel, .sentinel], laidTests := true, laidLooks := .later }
def PendingFindsUptoCardSaid : Prop := Claim7.holds Tryz.pinned (.plain (OpenSpec.upto pendingFindsSpec)) pendingFindsUptoCard

/-- THE SECOND FORM's CARD OF 'workflowlaw32.SignalsOnce'. -/
def signalsOnceUptoCard : Claim7 := { stood := { row := signalsOnceUptoRow, standIns := [], harness := (true, "869676bc7128f833b024f6b26f1dfe22299415916c71b51e393066324a17f590"), looks := true }, kinds := [], alts := [], laidByText := true, laidKinds := [.data, .data, .data, .sentinel, .sentinel], laidTests := true, laidLooks := .later }
def SignalsOnceUptoCardSaid : Prop := Claim7.holds Tryz.pinned (.plain (OpenSpec.upto signalsOnceSpec)) signalsOnceUptoCard

/-- THE SECOND FORM's CARD OF 'workflowlaw32.SignalsOrder'. -/
def signalsOrderUptoCard : Claim7 := { stood := { row := signalsOrderUptoRow, standIns := [], harness := (true, "869676bc7128f833b024f6b26f1dfe22299415916c71b51e393066324a17f590"), looks := true }, kinds := [], alts := [], laidByText := true, laidKinds := [.data, .data, .data, .sentinel, .sentinel], laidTests := true, laidLooks := .later }
def SignalsOrderUptoCardSaid : Prop := Claim7.holds Tryz.pinned (.plain (OpenSpec.upto signalsOrderSpec)) signalsOrderUptoCard

/-- THE SECOND FORM's CARD OF 'workflowlaw26.ApplyCheck'. -/
def applyCheckUptoCard : Claim7 := { stood := { row := applyCheckUptoRow, standIns := [], harness := (true, "869676bc7128f833b024f6b26f1dfe22299415916c71b51e393066324a17f590"), looks := true }, kinds := [], alts := [], laidByText := true, laidKinds := [.data, .data, .data, .sentinel, .sentinel], laidTests := true, laidLooks := .later }
def ApplyCheckUptoCardSaid : Prop := Claim7.holds Tryz.pinned (.plain (OpenSpec.upto applyCheckSpec)) applyCheckUptoCard

/-- THE SECOND FORM's CARD OF 'workflowlaw26.ApplyEvents'. -/
def applyEventsUptoCard : Claim7 := { stood := { row := applyEventsUptoRow, standIns := [], harness := (true, "869676bc7128f833b024f6b26f1dfe22299415916c71b51e393066324a17f590"), looks := true }, kinds := [], alts := [], laidByText := true, laidKinds := [.data, .data, .data, .sentinel, .sentinel], laidTests := true, laidLooks := .later }
def ApplyEventsUptoCardSaid : Prop := Claim7.holds Tryz.pinned (.plain (OpenSpec.upto applyEventsSpec)) applyEventsUptoCard

/-- THE SECOND FORM's CARD OF 'workflowlaw26.ApplyDone'. -/
def applyDoneUptoCard : Claim7 := { stood := { row := applyDoneUptoRow, standIns := [], harness := (true, "869676bc7128f833b024f6b26f1dfe22299415916c71b51e393066324a17f590"), looks := true }, kinds := [], alts := [], laidByText := true, laidKinds := [.data, .data, .data, .sentinel, .sentinel], laidTests := true, laidLooks := .later }
def ApplyDoneUptoCardSaid : Prop := Claim7.holds Tryz.pinned (.plain (OpenSpec.upto applyDoneSpec)) applyDoneUptoCard

/-- THE SECOND FORM's CARD OF 'workflowlaw26.ApplySplit'. -/
def applySplitUptoCard : Claim7 := { stood := { row := applySplitUptoRow, standIns := [], harness := (true, "869676bc7128f833b024f6b26f1dfe22299415916c71b51e393066324a17f590"), looks := true }, kinds := [], alts := [], laidByText := true, laidKinds := [.data, .data, .data, .sentinel, .sentinel], laidTests := true, laidLooks := .later }
def ApplySplitUptoCardSaid : Prop := Claim7.holds Tryz.pinned (.plain (OpenSpec.upto applySplitSpec)) applySplitUptoCard

/-- THE SECOND FORM's CARD OF 'workflowlaw26.ApplyFollows'. -/
def applyFollowsUptoCard : Claim7 := { stood := { row := applyFollowsUptoRow, standIns := [], harness := (true, "869676bc7128f833b024f6b26f1dfe22299415916c71b51e393066324a17f590"), looks := true }, kinds := [], alts := [], laidByText := true, laidKinds := [.data, .data, .data, .sentinel, .sentinel], laidTests := true, laidLooks := .later }
def ApplyFollowsUptoCardSaid : Prop := Claim7.holds Tryz.pinned (.plain (OpenSpec.upto applyFollowsSpec)) applyFollowsUptoCard
end Rows
end Go.Proofs.YtlgnflbekdldnaaGreatDoor
