/-
  NARROWER THAN 'FOR EVERY INPUT', by the rows' own cells (each row's printed sentence says how): DeadlineDues: loops · DeadlineFirst: loops · DeadlineStays: loops · FutureCounts: loops · FutureAnswers: loops · FutureOnce: loops · UpdateAdmit: loops · UpdateOutcome: loops · UpdateSettle: loops · UpdateOnce: loops · OutsideAnswers: loops · OutsideFinal: loops · OutsideOthers: loops · ActivityEnds: loops · ActivityTokens: loops · ChannelDeliver: loops · ChannelReceive: loops · ChannelOthers: loops · ActivityReports: loops.
  DERIVED. THE GIVEN ROWS OF THIS SEAT. 27 by the template 'for every input the law returns true; each argument reads behind the call as it read before'; 0 by the template 'total and deterministic' (their statements: YtlgnflbekdldnaaTotals.lean).
  GIVEN WITH THE SEED: the statements are not yours to turn. If you find one false, say at which input.
  Laid BY PROGRAM, IN A SANDBOX (cutbox-rows.mjs): the forced cells as the released guide's own fill.sh prints them over the translation 73adbc65d552593e… (all of the seat's roots in one cut). By AI agents, Wed Nov 11 2026. No macro, syntax, notation, axiom, sorry.
-/
import Derived.Test.YtlgnflbekdldnaaChecked
import GoSem.Claim
import GoSem.ClaimJoined
import GoSem.ClaimMapViews
import Derived.JoinedTies
import Derived.KernelRfl
namespace Go.Proofs.Ytlgnflbekdldnaa
/- THE CELL 'sum', in the pinned program and in every row, IS THE sha256 OF THE DUMP (.gsa) THAT YtlgnflbekdldnaaProg.lean LOADS. Nothing in Lean hashes anything: it is a label: what it is worth is what the hold of that sum in a sandbox is worth. -/
noncomputable def Try.pinned : Pinned := { name := "ytlgnflbekdldnaa", sum := "73adbc65d552593efc9599c1544b405b6d67390aff9ebf4e56846a3fb3671a75", checked := Try.checked }
namespace Rows
def none {H : Type} : Left H := { results := [], args := [] }

/-- 'workflowlaw35.DeadlineDues': WHATEVER THE INPUT: true; the input reads as it did. -/
def deadlineDuesSpec : ChangeSpec := { name := "deadlineDues", fn := fun _ => fun
  | [d1, d2] => { results := [.lit (.bool true)], args := [d1, d2] }
  | _ => none }
def deadlineDuesRow : OpenClaim := { program := "ytlgnflbekdldnaa", sum := "73adbc65d552593efc9599c1544b405b6d67390aff9ebf4e56846a3fb3671a75", func := "workflow/workflowlaw35.DeadlineDues", spec := "deadlineDues", loops := true, apart := false }
def DeadlineDuesSaid : Prop := deadlineDuesRow.holds Try.pinned (OpenSpec.ofChange deadlineDuesSpec)

/-- ITS FALSE NEIGHBOUR: 'it returns false'. Refute it at one input. -/
def deadlineDuesWrong : ChangeSpec := { name := "deadlineDues", fn := fun _ => fun
  | [d1, d2] => { results := [.lit (.bool false)], args := [d1, d2] }
  | _ => none }
def DeadlineDuesWrongFalsely : Prop := deadlineDuesRow.holds Try.pinned (OpenSpec.ofChange deadlineDuesWrong)

/-- 'workflowlaw35.DeadlineFirst': WHATEVER THE INPUT: true; the input reads as it did. -/
def deadlineFirstSpec : ChangeSpec := { name := "deadlineFirst", fn := fun _ => fun
  | [d1, d2] => { results := [.lit (.bool true)], args := [d1, d2] }
  | _ => none }
def deadlineFirstRow : OpenClaim := { program := "ytlgnflbekdldnaa", sum := "73adbc65d552593efc9599c1544b405b6d67390aff9ebf4e56846a3fb3671a75", func := "workflow/workflowlaw35.DeadlineFirst", spec := "deadlineFirst", loops := true, apart := false }
def DeadlineFirstSaid : Prop := deadlineFirstRow.holds Try.pinned (OpenSpec.ofChange deadlineFirstSpec)

/-- ITS FALSE NEIGHBOUR: 'it returns false'. Refute it at one input. -/
def deadlineFirstWrong : ChangeSpec := { name := "deadlineFirst", fn := fun _ => fun
  | [d1, d2] => { results := [.lit (.bool false)], args := [d1, d2] }
  | _ => none }
def DeadlineFirstWrongFalsely : Prop := deadlineFirstRow.holds Try.pinned (OpenSpec.ofChange deadlineFirstWrong)

/-- 'workflowlaw35.DeadlineNames': WHATEVER THE INPUT: true; the input reads as it did. -/
def deadlineNamesSpec : ChangeSpec := { name := "deadlineNames", fn := fun _ => fun
  | [d] => { results := [.lit (.bool true)], args := [d] }
  | _ => none }
def deadlineNamesRow : OpenClaim := { program := "ytlgnflbekdldnaa", sum := "73adbc65d552593efc9599c1544b405b6d67390aff9ebf4e56846a3fb3671a75", func := "workflow/workflowlaw35.DeadlineNames", spec := "deadlineNames", apart := false }
def DeadlineNamesSaid : Prop := deadlineNamesRow.holds Try.pinned (OpenSpec.ofChange deadlineNamesSpec)

/-- ITS FALSE NEIGHBOUR: 'it returns false'. Refute it at one input. -/
def deadlineNamesWrong : ChangeSpec := { name := "deadlineNames", fn := fun _ => fun
  | [d] => { results := [.lit (.bool false)], args := [d] }
  | _ => none }
def DeadlineNamesWrongFalsely : Prop := deadlineNamesRow.holds Try.pinned (OpenSpec.ofChange deadlineNamesWrong)

/-- 'workflowlaw35.DeadlineStays': WHATEVER THE INPUT: true; the input reads as it did. -/
def deadlineStaysSpec : ChangeSpec := { name := "deadlineStays", fn := fun _ => fun
  | [d1, d2, d3] => { results := [.lit (.bool true)], args := [d1, d2, d3] }
  | _ => none }
def deadlineStaysRow : OpenClaim := { program := "ytlgnflbekdldnaa", sum := "73adbc65d552593efc9599c1544b405b6d67390aff9ebf4e56846a3fb3671a75", func := "workflow/workflowlaw35.DeadlineStays", spec := "deadlineStays", loops := true, apart := false }
def DeadlineStaysSaid : Prop := deadlineStaysRow.holds Try.pinned (OpenSpec.ofChange deadlineStaysSpec)

/-- ITS FALSE NEIGHBOUR: 'it returns false'. Refute it at one input. -/
def deadlineStaysWrong : ChangeSpec := { name := "deadlineStays", fn := fun _ => fun
  | [d1, d2, d3] => { results := [.lit (.bool false)], args := [d1, d2, d3] }
  | _ => none }
def DeadlineStaysWrongFalsely : Prop := deadlineStaysRow.holds Try.pinned (OpenSpec.ofChange deadlineStaysWrong)

/-- 'workflowlaw15.FutureCounts': WHATEVER THE INPUT: true; the input reads as it did. -/
def futureCountsSpec : ChangeSpec := { name := "futureCounts", fn := fun _ => fun
  | [d1, d2, d3, d4] => { results := [.lit (.bool true)], args := [d1, d2, d3, d4] }
  | _ => none }
def futureCountsRow : OpenClaim := { program := "ytlgnflbekdldnaa", sum := "73adbc65d552593efc9599c1544b405b6d67390aff9ebf4e56846a3fb3671a75", func := "workflow/workflowlaw15.FutureCounts", spec := "futureCounts", unfollowed := true, recurses := true, loops := true, apart := false }
def FutureCountsSaid : Prop := futureCountsRow.holds Try.pinned (OpenSpec.ofChange futureCountsSpec)

/-- ITS FALSE NEIGHBOUR: 'it returns false'. Refute it at one input. -/
def futureCountsWrong : ChangeSpec := { name := "futureCounts", fn := fun _ => fun
  | [d1, d2, d3, d4] => { results := [.lit (.bool false)], args := [d1, d2, d3, d4] }
  | _ => none }
def FutureCountsWrongFalsely : Prop := futureCountsRow.holds Try.pinned (OpenSpec.ofChange futureCountsWrong)

/-- 'workflowlaw15.FutureAnswers': WHATEVER THE INPUT: true; the input reads as it did. -/
def futureAnswersSpec : ChangeSpec := { name := "futureAnswers", fn := fun _ => fun
  | [d1, d2, d3, d4, d5] => { results := [.lit (.bool true)], args := [d1, d2, d3, d4, d5] }
  | _ => none }
def futureAnswersRow : OpenClaim := { program := "ytlgnflbekdldnaa", sum := "73adbc65d552593efc9599c1544b405b6d67390aff9ebf4e56846a3fb3671a75", func := "workflow/workflowlaw15.FutureAnswers", spec := "futureAnswers", unfollowed := true, recurses := true, loops := true, apart := false }
def FutureAnswersSaid : Prop := futureAnswersRow.holds Try.pinned (OpenSpec.ofChange futureAnswersSpec)

/-- ITS FALSE NEIGHBOUR: 'it returns false'. Refute it at one input. -/
def futureAnswersWrong : ChangeSpec := { name := "futureAnswers", fn := fun _ => fun
  | [d1, d2, d3, d4, d5] => { results := [.lit (.bool false)], args := [d1, d2, d3, d4, d5] }
  | _ => none }
def FutureAnswersWrongFalsely : Prop := futureAnswersRow.holds Try.pinned (OpenSpec.ofChange futureAnswersWrong)

/-- 'workflowlaw15.FutureOnce': WHATEVER THE INPUT: true; the input reads as it did. -/
def futureOnceSpec : ChangeSpec := { name := "futureOnce", fn := fun _ => fun
  | [d1, d2, d3, d4] => { results := [.lit (.bool true)], args := [d1, d2, d3, d4] }
  | _ => none }
def futureOnceRow : OpenClaim := { program := "ytlgnflbekdldnaa", sum := "73adbc65d552593efc9599c1544b405b6d67390aff9ebf4e56846a3fb3671a75", func := "workflow/workflowlaw15.FutureOnce", spec := "futureOnce", unfollowed := true, recurses := true, loops := true, apart := false }
def FutureOnceSaid : Prop := futureOnceRow.holds Try.pinned (OpenSpec.ofChange futureOnceSpec)

/-- ITS FALSE NEIGHBOUR: 'it returns false'. Refute it at one input. -/
def futureOnceWrong : ChangeSpec := { name := "futureOnce", fn := fun _ => fun
  | [d1, d2, d3, d4] => { results := [.lit (.bool false)], args := [d1, d2, d3, d4] }
  | _ => none }
def FutureOnceWrongFalsely : Prop := futureOnceRow.holds Try.pinned (OpenSpec.ofChange futureOnceWrong)

/-- 'workflowlaw34.RetryDelay': WHATEVER THE INPUT: true; the input reads as it did. -/
def retryDelaySpec : ChangeSpec := { name := "retryDelay", fn := fun _ => fun
  | [d1, d2, d3] => { results := [.lit (.bool true)], args := [d1, d2, d3] }
  | _ => none }
def retryDelayRow : OpenClaim := { program := "ytlgnflbekdldnaa", sum := "73adbc65d552593efc9599c1544b405b6d67390aff9ebf4e56846a3fb3671a75", func := "workflow/workflowlaw34.RetryDelay", spec := "retryDelay", unfollowed := true, recurses := true, apart := false }
def RetryDelaySaid : Prop := retryDelayRow.holds Try.pinned (OpenSpec.ofChange retryDelaySpec)

/-- ITS FALSE NEIGHBOUR: 'it returns false'. Refute it at one input. -/
def retryDelayWrong : ChangeSpec := { name := "retryDelay", fn := fun _ => fun
  | [d1, d2, d3] => { results := [.lit (.bool false)], args := [d1, d2, d3] }
  | _ => none }
def RetryDelayWrongFalsely : Prop := retryDelayRow.holds Try.pinned (OpenSpec.ofChange retryDelayWrong)

/-- 'workflowlaw34.RetryAgain': WHATEVER THE INPUT: true; the input reads as it did. -/
def retryAgainSpec : ChangeSpec := { name := "retryAgain", fn := fun _ => fun
  | [d1, d2, d3, d4, d5] => { results := [.lit (.bool true)], args := [d1, d2, d3, d4, d5] }
  | _ => none }
def retryAgainRow : OpenClaim := { program := "ytlgnflbekdldnaa", sum := "73adbc65d552593efc9599c1544b405b6d67390aff9ebf4e56846a3fb3671a75", func := "workflow/workflowlaw34.RetryAgain", spec := "retryAgain", unfollowed := true, recurses := true, apart := false }
def RetryAgainSaid : Prop := retryAgainRow.holds Try.pinned (OpenSpec.ofChange retryAgainSpec)

/-- ITS FALSE NEIGHBOUR: 'it returns false'. Refute it at one input. -/
def retryAgainWrong : ChangeSpec := { name := "retryAgain", fn := fun _ => fun
  | [d1, d2, d3, d4, d5] => { results := [.lit (.bool false)], args := [d1, d2, d3, d4, d5] }
  | _ => none }
def RetryAgainWrongFalsely : Prop := retryAgainRow.holds Try.pinned (OpenSpec.ofChange retryAgainWrong)

/-- 'workflowlaw34.RetryEnds': WHATEVER THE INPUT: true; the input reads as it did. -/
def retryEndsSpec : ChangeSpec := { name := "retryEnds", fn := fun _ => fun
  | [d1, d2, d3, d4, d5] => { results := [.lit (.bool true)], args := [d1, d2, d3, d4, d5] }
  | _ => none }
def retryEndsRow : OpenClaim := { program := "ytlgnflbekdldnaa", sum := "73adbc65d552593efc9599c1544b405b6d67390aff9ebf4e56846a3fb3671a75", func := "workflow/workflowlaw34.RetryEnds", spec := "retryEnds", unfollowed := true, recurses := true, apart := false }
def RetryEndsSaid : Prop := retryEndsRow.holds Try.pinned (OpenSpec.ofChange retryEndsSpec)

/-- ITS FALSE NEIGHBOUR: 'it returns false'. Refute it at one input. -/
def retryEndsWrong : ChangeSpec := { name := "retryEnds", fn := fun _ => fun
  | [d1, d2, d3, d4, d5] => { results := [.lit (.bool false)], args := [d1, d2, d3, d4, d5] }
  | _ => none }
def RetryEndsWrongFalsely : Prop := retryEndsRow.holds Try.pinned (OpenSpec.ofChange retryEndsWrong)

/-- 'workflowlaw34.RetryDefault': WHATEVER THE INPUT: true; the input reads as it did. -/
def retryDefaultSpec : ChangeSpec := { name := "retryDefault", fn := fun _ => fun
  | [d] => { results := [.lit (.bool true)], args := [d] }
  | _ => none }
def retryDefaultRow : OpenClaim := { program := "ytlgnflbekdldnaa", sum := "73adbc65d552593efc9599c1544b405b6d67390aff9ebf4e56846a3fb3671a75", func := "workflow/workflowlaw34.RetryDefault", spec := "retryDefault", unfollowed := true, recurses := true, apart := false }
def RetryDefaultSaid : Prop := retryDefaultRow.holds Try.pinned (OpenSpec.ofChange retryDefaultSpec)

/-- ITS FALSE NEIGHBOUR: 'it returns false'. Refute it at one input. -/
def retryDefaultWrong : ChangeSpec := { name := "retryDefault", fn := fun _ => fun
  | [d] => { results := [.lit (.bool false)], args := [d] }
  | _ => none }
def RetryDefaultWrongFalsely : Prop := retryDefaultRow.holds Try.pinned (OpenSpec.ofChange retryDefaultWrong)

/-- 'workflowlaw34.RetryGrows': WHATEVER THE INPUT: true; the input reads as it did. -/
def retryGrowsSpec : ChangeSpec := { name := "retryGrows", fn := fun _ => fun
  | [d1, d2] => { results := [.lit (.bool true)], args := [d1, d2] }
  | _ => none }
def retryGrowsRow : OpenClaim := { program := "ytlgnflbekdldnaa", sum := "73adbc65d552593efc9599c1544b405b6d67390aff9ebf4e56846a3fb3671a75", func := "workflow/workflowlaw34.RetryGrows", spec := "retryGrows", unfollowed := true, recurses := true, apart := false }
def RetryGrowsSaid : Prop := retryGrowsRow.holds Try.pinned (OpenSpec.ofChange retryGrowsSpec)

/-- ITS FALSE NEIGHBOUR: 'it returns false'. Refute it at one input. -/
def retryGrowsWrong : ChangeSpec := { name := "retryGrows", fn := fun _ => fun
  | [d1, d2] => { results := [.lit (.bool false)], args := [d1, d2] }
  | _ => none }
def RetryGrowsWrongFalsely : Prop := retryGrowsRow.holds Try.pinned (OpenSpec.ofChange retryGrowsWrong)

/-- 'workflowlaw33.UpdateAdmit': WHATEVER THE INPUT: true; the input reads as it did. -/
def updateAdmitSpec : ChangeSpec := { name := "updateAdmit", fn := fun _ => fun
  | [d1, d2, d3] => { results := [.lit (.bool true)], args := [d1, d2, d3] }
  | _ => none }
def updateAdmitRow : OpenClaim := { program := "ytlgnflbekdldnaa", sum := "73adbc65d552593efc9599c1544b405b6d67390aff9ebf4e56846a3fb3671a75", func := "workflow/workflowlaw33.UpdateAdmit", spec := "updateAdmit", unfollowed := true, recurses := true, loops := true, apart := false }
def UpdateAdmitSaid : Prop := updateAdmitRow.holds Try.pinned (OpenSpec.ofChange updateAdmitSpec)

/-- ITS FALSE NEIGHBOUR: 'it returns false'. Refute it at one input. -/
def updateAdmitWrong : ChangeSpec := { name := "updateAdmit", fn := fun _ => fun
  | [d1, d2, d3] => { results := [.lit (.bool false)], args := [d1, d2, d3] }
  | _ => none }
def UpdateAdmitWrongFalsely : Prop := updateAdmitRow.holds Try.pinned (OpenSpec.ofChange updateAdmitWrong)

/-- 'workflowlaw33.UpdateOutcome': WHATEVER THE INPUT: true; the input reads as it did. -/
def updateOutcomeSpec : ChangeSpec := { name := "updateOutcome", fn := fun _ => fun
  | [d1, d2, d3] => { results := [.lit (.bool true)], args := [d1, d2, d3] }
  | _ => none }
def updateOutcomeRow : OpenClaim := { program := "ytlgnflbekdldnaa", sum := "73adbc65d552593efc9599c1544b405b6d67390aff9ebf4e56846a3fb3671a75", func := "workflow/workflowlaw33.UpdateOutcome", spec := "updateOutcome", unfollowed := true, recurses := true, loops := true, apart := false }
def UpdateOutcomeSaid : Prop := updateOutcomeRow.holds Try.pinned (OpenSpec.ofChange updateOutcomeSpec)

/-- ITS FALSE NEIGHBOUR: 'it returns false'. Refute it at one input. -/
def updateOutcomeWrong : ChangeSpec := { name := "updateOutcome", fn := fun _ => fun
  | [d1, d2, d3] => { results := [.lit (.bool false)], args := [d1, d2, d3] }
  | _ => none }
def UpdateOutcomeWrongFalsely : Prop := updateOutcomeRow.holds Try.pinned (OpenSpec.ofChange updateOutcomeWrong)

/-- 'workflowlaw33.UpdateSettle': WHATEVER THE INPUT: true; the input reads as it did. -/
def updateSettleSpec : ChangeSpec := { name := "updateSettle", fn := fun _ => fun
  | [d1, d2, d3] => { results := [.lit (.bool true)], args := [d1, d2, d3] }
  | _ => none }
def updateSettleRow : OpenClaim := { program := "ytlgnflbekdldnaa", sum := "73adbc65d552593efc9599c1544b405b6d67390aff9ebf4e56846a3fb3671a75", func := "workflow/workflowlaw33.UpdateSettle", spec := "updateSettle", unfollowed := true, recurses := true, loops := true, apart := false }
def UpdateSettleSaid : Prop := updateSettleRow.holds Try.pinned (OpenSpec.ofChange updateSettleSpec)

/-- ITS FALSE NEIGHBOUR: 'it returns false'. Refute it at one input. -/
def updateSettleWrong : ChangeSpec := { name := "updateSettle", fn := fun _ => fun
  | [d1, d2, d3] => { results := [.lit (.bool false)], args := [d1, d2, d3] }
  | _ => none }
def UpdateSettleWrongFalsely : Prop := updateSettleRow.holds Try.pinned (OpenSpec.ofChange updateSettleWrong)

/-- 'workflowlaw33.UpdateOnce': WHATEVER THE INPUT: true; the input reads as it did. -/
def updateOnceSpec : ChangeSpec := { name := "updateOnce", fn := fun _ => fun
  | [d1, d2, d3] => { results := [.lit (.bool true)], args := [d1, d2, d3] }
  | _ => none }
def updateOnceRow : OpenClaim := { program := "ytlgnflbekdldnaa", sum := "73adbc65d552593efc9599c1544b405b6d67390aff9ebf4e56846a3fb3671a75", func := "workflow/workflowlaw33.UpdateOnce", spec := "updateOnce", unfollowed := true, recurses := true, loops := true, apart := false }
def UpdateOnceSaid : Prop := updateOnceRow.holds Try.pinned (OpenSpec.ofChange updateOnceSpec)

/-- ITS FALSE NEIGHBOUR: 'it returns false'. Refute it at one input. -/
def updateOnceWrong : ChangeSpec := { name := "updateOnce", fn := fun _ => fun
  | [d1, d2, d3] => { results := [.lit (.bool false)], args := [d1, d2, d3] }
  | _ => none }
def UpdateOnceWrongFalsely : Prop := updateOnceRow.holds Try.pinned (OpenSpec.ofChange updateOnceWrong)

/-- 'workflowlaw57.OutsideAnswers': WHATEVER THE INPUT: true; the input reads as it did. -/
def outsideAnswersSpec : ChangeSpec := { name := "outsideAnswers", fn := fun _ => fun
  | [d1, d2, d3, d4] => { results := [.lit (.bool true)], args := [d1, d2, d3, d4] }
  | _ => none }
def outsideAnswersRow : OpenClaim := { program := "ytlgnflbekdldnaa", sum := "73adbc65d552593efc9599c1544b405b6d67390aff9ebf4e56846a3fb3671a75", func := "workflow/workflowlaw57.OutsideAnswers", spec := "outsideAnswers", unfollowed := true, recurses := true, loops := true, apart := false }
def OutsideAnswersSaid : Prop := outsideAnswersRow.holds Try.pinned (OpenSpec.ofChange outsideAnswersSpec)

/-- ITS FALSE NEIGHBOUR: 'it returns false'. Refute it at one input. -/
def outsideAnswersWrong : ChangeSpec := { name := "outsideAnswers", fn := fun _ => fun
  | [d1, d2, d3, d4] => { results := [.lit (.bool false)], args := [d1, d2, d3, d4] }
  | _ => none }
def OutsideAnswersWrongFalsely : Prop := outsideAnswersRow.holds Try.pinned (OpenSpec.ofChange outsideAnswersWrong)

/-- 'workflowlaw57.OutsideFinal': WHATEVER THE INPUT: true; the input reads as it did. -/
def outsideFinalSpec : ChangeSpec := { name := "outsideFinal", fn := fun _ => fun
  | [d1, d2, d3, d4, d5] => { results := [.lit (.bool true)], args := [d1, d2, d3, d4, d5] }
  | _ => none }
def outsideFinalRow : OpenClaim := { program := "ytlgnflbekdldnaa", sum := "73adbc65d552593efc9599c1544b405b6d67390aff9ebf4e56846a3fb3671a75", func := "workflow/workflowlaw57.OutsideFinal", spec := "outsideFinal", unfollowed := true, recurses := true, loops := true, apart := false }
def OutsideFinalSaid : Prop := outsideFinalRow.holds Try.pinned (OpenSpec.ofChange outsideFinalSpec)

/-- ITS FALSE NEIGHBOUR: 'it returns false'. Refute it at one input. -/
def outsideFinalWrong : ChangeSpec := { name := "outsideFinal", fn := fun _ => fun
  | [d1, d2, d3, d4, d5] => { results := [.lit (.bool false)], args := [d1, d2, d3, d4, d5] }
  | _ => none }
def OutsideFinalWrongFalsely : Prop := outsideFinalRow.holds Try.pinned (OpenSpec.ofChange outsideFinalWrong)

/-- 'workflowlaw57.OutsideOthers': WHATEVER THE INPUT: true; the input reads as it did. -/
def outsideOthersSpec : ChangeSpec := { name := "outsideOthers", fn := fun _ => fun
  | [d1, d2, d3, d4, d5] => { results := [.lit (.bool true)], args := [d1, d2, d3, d4, d5] }
  | _ => none }
def outsideOthersRow : OpenClaim := { program := "ytlgnflbekdldnaa", sum := "73adbc65d552593efc9599c1544b405b6d67390aff9ebf4e56846a3fb3671a75", func := "workflow/workflowlaw57.OutsideOthers", spec := "outsideOthers", unfollowed := true, recurses := true, loops := true, apart := false }
def OutsideOthersSaid : Prop := outsideOthersRow.holds Try.pinned (OpenSpec.ofChange outsideOthersSpec)

/-- ITS FALSE NEIGHBOUR: 'it returns false'. Refute it at one input. -/
def outsideOthersWrong : ChangeSpec := { name := "outsideOthers", fn := fun _ => fun
  | [d1, d2, d3, d4, d5] => { results := [.lit (.bool false)], args := [d1, d2, d3, d4, d5] }
  | _ => none }
def OutsideOthersWrongFalsely : Prop := outsideOthersRow.holds Try.pinned (OpenSpec.ofChange outsideOthersWrong)

/-- 'workflowlaw36.ActivityEnds': WHATEVER THE INPUT: true; the input reads as it did. -/
def activityEndsSpec : ChangeSpec := { name := "activityEnds", fn := fun _ => fun
  | [d1, d2, d3, d4] => { results := [.lit (.bool true)], args := [d1, d2, d3, d4] }
  | _ => none }
def activityEndsRow : OpenClaim := { program := "ytlgnflbekdldnaa", sum := "73adbc65d552593efc9599c1544b405b6d67390aff9ebf4e56846a3fb3671a75", func := "workflow/workflowlaw36.ActivityEnds", spec := "activityEnds", unfollowed := true, recurses := true, loops := true, apart := false }
def ActivityEndsSaid : Prop := activityEndsRow.holds Try.pinned (OpenSpec.ofChange activityEndsSpec)

/-- ITS FALSE NEIGHBOUR: 'it returns false'. Refute it at one input. -/
def activityEndsWrong : ChangeSpec := { name := "activityEnds", fn := fun _ => fun
  | [d1, d2, d3, d4] => { results := [.lit (.bool false)], args := [d1, d2, d3, d4] }
  | _ => none }
def ActivityEndsWrongFalsely : Prop := activityEndsRow.holds Try.pinned (OpenSpec.ofChange activityEndsWrong)

/-- 'workflowlaw36.ActivityTokens': WHATEVER THE INPUT: true; the input reads as it did. -/
def activityTokensSpec : ChangeSpec := { name := "activityTokens", fn := fun _ => fun
  | [d1, d2, d3, d4, d5, d6] => { results := [.lit (.bool true)], args := [d1, d2, d3, d4, d5, d6] }
  | _ => none }
def activityTokensRow : OpenClaim := { program := "ytlgnflbekdldnaa", sum := "73adbc65d552593efc9599c1544b405b6d67390aff9ebf4e56846a3fb3671a75", func := "workflow/workflowlaw36.ActivityTokens", spec := "activityTokens", unfollowed := true, recurses := true, loops := true, apart := false }
def ActivityTokensSaid : Prop := activityTokensRow.holds Try.pinned (OpenSpec.ofChange activityTokensSpec)

/-- ITS FALSE NEIGHBOUR: 'it returns false'. Refute it at one input. -/
def activityTokensWrong : ChangeSpec := { name := "activityTokens", fn := fun _ => fun
  | [d1, d2, d3, d4, d5, d6] => { results := [.lit (.bool false)], args := [d1, d2, d3, d4, d5, d6] }
  | _ => none }
def ActivityTokensWrongFalsely : Prop := activityTokensRow.holds Try.pinned (OpenSpec.ofChange activityTokensWrong)

/-- 'workflowlaw36.ActivityAttempts': WHATEVER THE INPUT: true; the input reads as it did. -/
def activityAttemptsSpec : ChangeSpec := { name := "activityAttempts", fn := fun _ => fun
  | [d1, d2, d3, d4] => { results := [.lit (.bool true)], args := [d1, d2, d3, d4] }
  | _ => none }
def activityAttemptsRow : OpenClaim := { program := "ytlgnflbekdldnaa", sum := "73adbc65d552593efc9599c1544b405b6d67390aff9ebf4e56846a3fb3671a75", func := "workflow/workflowlaw36.ActivityAttempts", spec := "activityAttempts", unfollowed := true, recurses := true, apart := false }
def ActivityAttemptsSaid : Prop := activityAttemptsRow.holds Try.pinned (OpenSpec.ofChange activityAttemptsSpec)

/-- ITS FALSE NEIGHBOUR: 'it returns false'. Refute it at one input. -/
def activityAttemptsWrong : ChangeSpec := { name := "activityAttempts", fn := fun _ => fun
  | [d1, d2, d3, d4] => { results := [.lit (.bool false)], args := [d1, d2, d3, d4] }
  | _ => none }
def ActivityAttemptsWrongFalsely : Prop := activityAttemptsRow.holds Try.pinned (OpenSpec.ofChange activityAttemptsWrong)

/-- 'workflowlaw16.ChannelDeliver': WHATEVER THE INPUT: true; the input reads as it did. -/
def channelDeliverSpec : ChangeSpec := { name := "channelDeliver", fn := fun _ => fun
  | [d1, d2, d3, d4] => { results := [.lit (.bool true)], args := [d1, d2, d3, d4] }
  | _ => none }
def channelDeliverRow : OpenClaim := { program := "ytlgnflbekdldnaa", sum := "73adbc65d552593efc9599c1544b405b6d67390aff9ebf4e56846a3fb3671a75", func := "workflow/workflowlaw16.ChannelDeliver", spec := "channelDeliver", unfollowed := true, recurses := true, loops := true, apart := false }
def ChannelDeliverSaid : Prop := channelDeliverRow.holds Try.pinned (OpenSpec.ofChange channelDeliverSpec)

/-- ITS FALSE NEIGHBOUR: 'it returns false'. Refute it at one input. -/
def channelDeliverWrong : ChangeSpec := { name := "channelDeliver", fn := fun _ => fun
  | [d1, d2, d3, d4] => { results := [.lit (.bool false)], args := [d1, d2, d3, d4] }
  | _ => none }
def ChannelDeliverWrongFalsely : Prop := channelDeliverRow.holds Try.pinned (OpenSpec.ofChange channelDeliverWrong)

/-- 'workflowlaw16.ChannelReceive': WHATEVER THE INPUT: true; the input reads as it did. -/
def channelReceiveSpec : ChangeSpec := { name := "channelReceive", fn := fun _ => fun
  | [d1, d2, d3, d4] => { results := [.lit (.bool true)], args := [d1, d2, d3, d4] }
  | _ => none }
def channelReceiveRow : OpenClaim := { program := "ytlgnflbekdldnaa", sum := "73adbc65d552593efc9599c1544b405b6d67390aff9ebf4e56846a3fb3671a75", func := "workflow/workflowlaw16.ChannelReceive", spec := "channelReceive", unfollowed := true, recurses := true, loops := true, apart := false }
def ChannelReceiveSaid : Prop := channelReceiveRow.holds Try.pinned (OpenSpec.ofChange channelReceiveSpec)

/-- ITS FALSE NEIGHBOUR: 'it returns false'. Refute it at one input. -/
def channelReceiveWrong : ChangeSpec := { name := "channelReceive", fn := fun _ => fun
  | [d1, d2, d3, d4] => { results := [.lit (.bool false)], args := [d1, d2, d3, d4] }
  | _ => none }
def ChannelReceiveWrongFalsely : Prop := channelReceiveRow.holds Try.pinned (OpenSpec.ofChange channelReceiveWrong)

/-- 'workflowlaw16.ChannelOrder': WHATEVER THE INPUT: true; the input reads as it did. -/
def channelOrderSpec : ChangeSpec := { name := "channelOrder", fn := fun _ => fun
  | [d] => { results := [.lit (.bool true)], args := [d] }
  | _ => none }
def channelOrderRow : OpenClaim := { program := "ytlgnflbekdldnaa", sum := "73adbc65d552593efc9599c1544b405b6d67390aff9ebf4e56846a3fb3671a75", func := "workflow/workflowlaw16.ChannelOrder", spec := "channelOrder", unfollowed := true, recurses := true, apart := false }
def ChannelOrderSaid : Prop := channelOrderRow.holds Try.pinned (OpenSpec.ofChange channelOrderSpec)

/-- ITS FALSE NEIGHBOUR: 'it returns false'. Refute it at one input. -/
def channelOrderWrong : ChangeSpec := { name := "channelOrder", fn := fun _ => fun
  | [d] => { results := [.lit (.bool false)], args := [d] }
  | _ => none }
def ChannelOrderWrongFalsely : Prop := channelOrderRow.holds Try.pinned (OpenSpec.ofChange channelOrderWrong)

/-- 'workflowlaw16.ChannelOthers': WHATEVER THE INPUT: true; the input reads as it did. -/
def channelOthersSpec : ChangeSpec := { name := "channelOthers", fn := fun _ => fun
  | [d1, d2, d3, d4] => { results := [.lit (.bool true)], args := [d1, d2, d3, d4] }
  | _ => none }
def channelOthersRow : OpenClaim := { program := "ytlgnflbekdldnaa", sum := "73adbc65d552593efc9599c1544b405b6d67390aff9ebf4e56846a3fb3671a75", func := "workflow/workflowlaw16.ChannelOthers", spec := "channelOthers", unfollowed := true, recurses := true, loops := true, apart := false }
def ChannelOthersSaid : Prop := channelOthersRow.holds Try.pinned (OpenSpec.ofChange channelOthersSpec)

/-- ITS FALSE NEIGHBOUR: 'it returns false'. Refute it at one input. -/
def channelOthersWrong : ChangeSpec := { name := "channelOthers", fn := fun _ => fun
  | [d1, d2, d3, d4] => { results := [.lit (.bool false)], args := [d1, d2, d3, d4] }
  | _ => none }
def ChannelOthersWrongFalsely : Prop := channelOthersRow.holds Try.pinned (OpenSpec.ofChange channelOthersWrong)

/-- 'workflowlaw36.ActivityReports': WHATEVER THE INPUT: true; the input reads as it did. -/
def activityReportsSpec : ChangeSpec := { name := "activityReports", fn := fun _ => fun
  | [d1, d2, d3, d4, d5] => { results := [.lit (.bool true)], args := [d1, d2, d3, d4, d5] }
  | _ => none }
def activityReportsRow : OpenClaim := { program := "ytlgnflbekdldnaa", sum := "73adbc65d552593efc9599c1544b405b6d67390aff9ebf4e56846a3fb3671a75", func := "workflow/workflowlaw36.ActivityReports", spec := "activityReports", unfollowed := true, recurses := true, loops := true, apart := false }
def ActivityReportsSaid : Prop := activityReportsRow.holds Try.pinned (OpenSpec.ofChange activityReportsSpec)

/-- ITS FALSE NEIGHBOUR: 'it returns false'. Refute it at one input. -/
def activityReportsWrong : ChangeSpec := { name := "activityReports", fn := fun _ => fun
  | [d1, d2, d3, d4, d5] => { results := [.lit (.bool false)], args := [d1, d2, d3, d4, d5] }
  | _ => none }
def ActivityReportsWrongFalsely : Prop := activityReportsRow.holds Try.pinned (OpenSpec.ofChange activityReportsWrong)

/- THE SECOND FORM. 'bulk': how many values and letters a reading holds, each counted each time it is reached (what is shared counts as often as it is met; a slice's spare places count too). A statement '..UptoSaid' is the law's where the arguments, and the package variables that the reading takes, are together of bulk at most 1048576: NARROWER than '..Said'. Prove '..Said' where nothing that the law and all that it calls make is longer than what came in: it says more and counts as full. Else prove '..UptoSaid'. A law counts once. -/
mutual
def uptoBulk {H : Type} : DataW H → Nat
  | .lit (.string bytes) => bytes.length + 1
  | .lit _ => 1
  | .nil => 1
  | .ptr d => uptoBulk d + 1
  | .slice elems spare => uptoBulkAll elems + uptoBulkAll spare + 1
  | .agg parts => uptoBulkAll parts + 1
  | .iface _ d => uptoBulk d + 1
  | .map entries => uptoBulkEntries entries + 1
  | .held _ => 1
def uptoBulkAll {H : Type} : List (DataW H) → Nat
  | [] => 0
  | d :: r => uptoBulk d + uptoBulkAll r
def uptoBulkEntries {H : Type} : List (Lit × DataW H) → Nat
  | [] => 0
  | x :: r => uptoBulkEntry x + uptoBulkEntries r
def uptoBulkEntry {H : Type} : Lit × DataW H → Nat
  | (.string bytes, d) => bytes.length + uptoBulk d + 1
  | (_, d) => uptoBulk d + 1
 end
def uptoSmall : (H : Type) → List (DataW H) → Bool := fun _ ds => decide (uptoBulkAll ds ≤ 1048576)
def OpenSpec.upto (s : _root_.Go.ChangeSpec) : _root_.Go.OpenSpec := { _root_.Go.OpenSpec.ofChange s with cond := some uptoSmall }

/-- 'workflowlaw35.DeadlineDues', WHERE WHAT IT READS IS OF BULK AT MOST 1048576: true; the input reads as it did. -/
def deadlineDuesUptoRow : OpenClaim := { program := "ytlgnflbekdldnaa", sum := "73adbc65d552593efc9599c1544b405b6d67390aff9ebf4e56846a3fb3671a75", func := "workflow/workflowlaw35.DeadlineDues", spec := "deadlineDues", loops := true, apart := false, narrowed := true }
def DeadlineDuesUptoSaid : Prop := deadlineDuesUptoRow.holds Try.pinned (OpenSpec.upto deadlineDuesSpec)

/-- 'workflowlaw35.DeadlineFirst', WHERE WHAT IT READS IS OF BULK AT MOST 1048576: true; the input reads as it did. -/
def deadlineFirstUptoRow : OpenClaim := { program := "ytlgnflbekdldnaa", sum := "73adbc65d552593efc9599c1544b405b6d67390aff9ebf4e56846a3fb3671a75", func := "workflow/workflowlaw35.DeadlineFirst", spec := "deadlineFirst", loops := true, apart := false, narrowed := true }
def DeadlineFirstUptoSaid : Prop := deadlineFirstUptoRow.holds Try.pinned (OpenSpec.upto deadlineFirstSpec)

/-- 'workflowlaw35.DeadlineNames', WHERE WHAT IT READS IS OF BULK AT MOST 1048576: true; the input reads as it did. -/
def deadlineNamesUptoRow : OpenClaim := { program := "ytlgnflbekdldnaa", sum := "73adbc65d552593efc9599c1544b405b6d67390aff9ebf4e56846a3fb3671a75", func := "workflow/workflowlaw35.DeadlineNames", spec := "deadlineNames", apart := false, narrowed := true }
def DeadlineNamesUptoSaid : Prop := deadlineNamesUptoRow.holds Try.pinned (OpenSpec.upto deadlineNamesSpec)

/-- 'workflowlaw35.DeadlineStays', WHERE WHAT IT READS IS OF BULK AT MOST 1048576: true; the input reads as it did. -/
def deadlineStaysUptoRow : OpenClaim := { program := "ytlgnflbekdldnaa", sum := "73adbc65d552593efc9599c1544b405b6d67390aff9ebf4e56846a3fb3671a75", func := "workflow/workflowlaw35.DeadlineStays", spec := "deadlineStays", loops := true, apart := false, narrowed := true }
def DeadlineStaysUptoSaid : Prop := deadlineStaysUptoRow.holds Try.pinned (OpenSpec.upto deadlineStaysSpec)

/-- 'workflowlaw15.FutureCounts', WHERE WHAT IT READS IS OF BULK AT MOST 1048576: true; the input reads as it did. -/
def futureCountsUptoRow : OpenClaim := { program := "ytlgnflbekdldnaa", sum := "73adbc65d552593efc9599c1544b405b6d67390aff9ebf4e56846a3fb3671a75", func := "workflow/workflowlaw15.FutureCounts", spec := "futureCounts", unfollowed := true, recurses := true, loops := true, apart := false, narrowed := true }
def FutureCountsUptoSaid : Prop := futureCountsUptoRow.holds Try.pinned (OpenSpec.upto futureCountsSpec)

/-- 'workflowlaw15.FutureAnswers', WHERE WHAT IT READS IS OF BULK AT MOST 1048576: true; the input reads as it did. -/
def futureAnswersUptoRow : OpenClaim := { program := "ytlgnflbekdldnaa", sum := "73adbc65d552593efc9599c1544b405b6d67390aff9ebf4e56846a3fb3671a75", func := "workflow/workflowlaw15.FutureAnswers", spec := "futureAnswers", unfollowed := true, recurses := true, loops := true, apart := false, narrowed := true }
def FutureAnswersUptoSaid : Prop := futureAnswersUptoRow.holds Try.pinned (OpenSpec.upto futureAnswersSpec)

/-- 'workflowlaw15.FutureOnce', WHERE WHAT IT READS IS OF BULK AT MOST 1048576: true; the input reads as it did. -/
def futureOnceUptoRow : OpenClaim := { program := "ytlgnflbekdldnaa", sum := "73adbc65d552593efc9599c1544b405b6d67390aff9ebf4e56846a3fb3671a75", func := "workflow/workflowlaw15.FutureOnce", spec := "futureOnce", unfollowed := true, recurses := true, loops := true, apart := false, narrowed := true }
def FutureOnceUptoSaid : Prop := futureOnceUptoRow.holds Try.pinned (OpenSpec.upto futureOnceSpec)

/-- 'workflowlaw34.RetryDelay', WHERE WHAT IT READS IS OF BULK AT MOST 1048576: true; the input reads as it did. -/
def retryDelayUptoRow : OpenClaim := { program := "ytlgnflbekdldnaa", sum := "73adbc65d552593efc9599c1544b405b6d67390aff9ebf4e56846a3fb3671a75", func := "workflow/workflowlaw34.RetryDelay", spec := "retryDelay", unfollowed := true, recurses := true, apart := false, narrowed := true }
def RetryDelayUptoSaid : Prop := retryDelayUptoRow.holds Try.pinned (OpenSpec.upto retryDelaySpec)

/-- 'workflowlaw34.RetryAgain', WHERE WHAT IT READS IS OF BULK AT MOST 1048576: true; the input reads as it did. -/
def retryAgainUptoRow : OpenClaim := { program := "ytlgnflbekdldnaa", sum := "73adbc65d552593efc9599c1544b405b6d67390aff9ebf4e56846a3fb3671a75", func := "workflow/workflowlaw34.RetryAgain", spec := "retryAgain", unfollowed := true, recurses := true, apart := false, narrowed := true }
def RetryAgainUptoSaid : Prop := retryAgainUptoRow.holds Try.pinned (OpenSpec.upto retryAgainSpec)

/-- 'workflowlaw34.RetryEnds', WHERE WHAT IT READS IS OF BULK AT MOST 1048576: true; the input reads as it did. -/
def retryEndsUptoRow : OpenClaim := { program := "ytlgnflbekdldnaa", sum := "73adbc65d552593efc9599c1544b405b6d67390aff9ebf4e56846a3fb3671a75", func := "workflow/workflowlaw34.RetryEnds", spec := "retryEnds", unfollowed := true, recurses := true, apart := false, narrowed := true }
def RetryEndsUptoSaid : Prop := retryEndsUptoRow.holds Try.pinned (OpenSpec.upto retryEndsSpec)

/-- 'workflowlaw34.RetryDefault', WHERE WHAT IT READS IS OF BULK AT MOST 1048576: true; the input reads as it did. -/
def retryDefaultUptoRow : OpenClaim := { program := "ytlgnflbekdldnaa", sum := "73adbc65d552593efc9599c1544b405b6d67390aff9ebf4e56846a3fb3671a75", func := "workflow/workflowlaw34.RetryDefault", spec := "retryDefault", unfollowed := true, recurses := true, apart := false, narrowed := true }
def RetryDefaultUptoSaid : Prop := retryDefaultUptoRow.holds Try.pinned (OpenSpec.upto retryDefaultSpec)

/-- 'workflowlaw34.RetryGrows', WHERE WHAT IT READS IS OF BULK AT MOST 1048576: true; the input reads as it did. -/
def retryGrowsUptoRow : OpenClaim := { program := "ytlgnflbekdldnaa", sum := "73adbc65d552593efc9599c1544b405b6d67390aff9ebf4e56846a3fb3671a75", func := "workflow/workflowlaw34.RetryGrows", spec := "retryGrows", unfollowed := true, recurses := true, apart := false, narrowed := true }
def RetryGrowsUptoSaid : Prop := retryGrowsUptoRow.holds Try.pinned (OpenSpec.upto retryGrowsSpec)

/-- 'workflowlaw33.UpdateAdmit', WHERE WHAT IT READS IS OF BULK AT MOST 1048576: true; the input reads as it did. -/
def updateAdmitUptoRow : OpenClaim := { program := "ytlgnflbekdldnaa", sum := "73adbc65d552593efc9599c1544b405b6d67390aff9ebf4e56846a3fb3671a75", func := "workflow/workflowlaw33.UpdateAdmit", spec := "updateAdmit", unfollowed := true, recurses := true, loops := true, apart := false, narrowed := true }
def UpdateAdmitUptoSaid : Prop := updateAdmitUptoRow.holds Try.pinned (OpenSpec.upto updateAdmitSpec)

/-- 'workflowlaw33.UpdateOutcome', WHERE WHAT IT READS IS OF BULK AT MOST 1048576: true; the input reads as it did. -/
def updateOutcomeUptoRow : OpenClaim := { program := "ytlgnflbekdldnaa", sum := "73adbc65d552593efc9599c1544b405b6d67390aff9ebf4e56846a3fb3671a75", func := "workflow/workflowlaw33.UpdateOutcome", spec := "updateOutcome", unfollowed := true, recurses := true, loops := true, apart := false, narrowed := true }
def UpdateOutcomeUptoSaid : Prop := updateOutcomeUptoRow.holds Try.pinned (OpenSpec.upto updateOutcomeSpec)

/-- 'workflowlaw33.UpdateSettle', WHERE WHAT IT READS IS OF BULK AT MOST 1048576: true; the input reads as it did. -/
def updateSettleUptoRow : OpenClaim := { program := "ytlgnflbekdldnaa", sum := "73adbc65d552593efc9599c1544b405b6d67390aff9ebf4e56846a3fb3671a75", func := "workflow/workflowlaw33.UpdateSettle", spec := "updateSettle", unfollowed := true, recurses := true, loops := true, apart := false, narrowed := true }
def UpdateSettleUptoSaid : Prop := updateSettleUptoRow.holds Try.pinned (OpenSpec.upto updateSettleSpec)

/-- 'workflowlaw33.UpdateOnce', WHERE WHAT IT READS IS OF BULK AT MOST 1048576: true; the input reads as it did. -/
def updateOnceUptoRow : OpenClaim := { program := "ytlgnflbekdldnaa", sum := "73adbc65d552593efc9599c1544b405b6d67390aff9ebf4e56846a3fb3671a75", func := "workflow/workflowlaw33.UpdateOnce", spec := "updateOnce", unfollowed := true, recurses := true, loops := true, apart := false, narrowed := true }
def UpdateOnceUptoSaid : Prop := updateOnceUptoRow.holds Try.pinned (OpenSpec.upto updateOnceSpec)

/-- 'workflowlaw57.OutsideAnswers', WHERE WHAT IT READS IS OF BULK AT MOST 1048576: true; the input reads as it did. -/
def outsideAnswersUptoRow : OpenClaim := { program := "ytlgnflbekdldnaa", sum := "73adbc65d552593efc9599c1544b405b6d67390aff9ebf4e56846a3fb3671a75", func := "workflow/workflowlaw57.OutsideAnswers", spec := "outsideAnswers", unfollowed := true, recurses := true, loops := true, apart := false, narrowed := true }
def OutsideAnswersUptoSaid : Prop := outsideAnswersUptoRow.holds Try.pinned (OpenSpec.upto outsideAnswersSpec)

/-- 'workflowlaw57.OutsideFinal', WHERE WHAT IT READS IS OF BULK AT MOST 1048576: true; the input reads as it did. -/
def outsideFinalUptoRow : OpenClaim := { program := "ytlgnflbekdldnaa", sum := "73adbc65d552593efc9599c1544b405b6d67390aff9ebf4e56846a3fb3671a75", func := "workflow/workflowlaw57.OutsideFinal", spec := "outsideFinal", unfollowed := true, recurses := true, loops := true, apart := false, narrowed := true }
def OutsideFinalUptoSaid : Prop := outsideFinalUptoRow.holds Try.pinned (OpenSpec.upto outsideFinalSpec)

/-- 'workflowlaw57.OutsideOthers', WHERE WHAT IT READS IS OF BULK AT MOST 1048576: true; the input reads as it did. -/
def outsideOthersUptoRow : OpenClaim := { program := "ytlgnflbekdldnaa", sum := "73adbc65d552593efc9599c1544b405b6d67390aff9ebf4e56846a3fb3671a75", func := "workflow/workflowlaw57.OutsideOthers", spec := "outsideOthers", unfollowed := true, recurses := true, loops := true, apart := false, narrowed := true }
def OutsideOthersUptoSaid : Prop := outsideOthersUptoRow.holds Try.pinned (OpenSpec.upto outsideOthersSpec)

/-- 'workflowlaw36.ActivityEnds', WHERE WHAT IT READS IS OF BULK AT MOST 1048576: true; the input reads as it did. -/
def activityEndsUptoRow : OpenClaim := { program := "ytlgnflbekdldnaa", sum := "73adbc65d552593efc9599c1544b405b6d67390aff9ebf4e56846a3fb3671a75", func := "workflow/workflowlaw36.ActivityEnds", spec := "activityEnds", unfollowed := true, recurses := true, loops := true, apart := false, narrowed := true }
def ActivityEndsUptoSaid : Prop := activityEndsUptoRow.holds Try.pinned (OpenSpec.upto activityEndsSpec)

/-- 'workflowlaw36.ActivityTokens', WHERE WHAT IT READS IS OF BULK AT MOST 1048576: true; the input reads as it did. -/
def activityTokensUptoRow : OpenClaim := { program := "ytlgnflbekdldnaa", sum := "73adbc65d552593efc9599c1544b405b6d67390aff9ebf4e56846a3fb3671a75", func := "workflow/workflowlaw36.ActivityTokens", spec := "activityTokens", unfollowed := true, recurses := true, loops := true, apart := false, narrowed := true }
def ActivityTokensUptoSaid : Prop := activityTokensUptoRow.holds Try.pinned (OpenSpec.upto activityTokensSpec)

/-- 'workflowlaw36.ActivityAttempts', WHERE WHAT IT READS IS OF BULK AT MOST 1048576: true; the input reads as it did. -/
def activityAttemptsUptoRow : OpenClaim := { program := "ytlgnflbekdldnaa", sum := "73adbc65d552593efc9599c1544b405b6d67390aff9ebf4e56846a3fb3671a75", func := "workflow/workflowlaw36.ActivityAttempts", spec := "activityAttempts", unfollowed := true, recurses := true, apart := false, narrowed := true }
def ActivityAttemptsUptoSaid : Prop := activityAttemptsUptoRow.holds Try.pinned (OpenSpec.upto activityAttemptsSpec)

/-- 'workflowlaw16.ChannelDeliver', WHERE WHAT IT READS IS OF BULK AT MOST 1048576: true; the input reads as it did. -/
def channelDeliverUptoRow : OpenClaim := { program := "ytlgnflbekdldnaa", sum := "73adbc65d552593efc9599c1544b405b6d67390aff9ebf4e56846a3fb3671a75", func := "workflow/workflowlaw16.ChannelDeliver", spec := "channelDeliver", unfollowed := true, recurses := true, loops := true, apart := false, narrowed := true }
def ChannelDeliverUptoSaid : Prop := channelDeliverUptoRow.holds Try.pinned (OpenSpec.upto channelDeliverSpec)

/-- 'workflowlaw16.ChannelReceive', WHERE WHAT IT READS IS OF BULK AT MOST 1048576: true; the input reads as it did. -/
def channelReceiveUptoRow : OpenClaim := { program := "ytlgnflbekdldnaa", sum := "73adbc65d552593efc9599c1544b405b6d67390aff9ebf4e56846a3fb3671a75", func := "workflow/workflowlaw16.ChannelReceive", spec := "channelReceive", unfollowed := true, recurses := true, loops := true, apart := false, narrowed := true }
def ChannelReceiveUptoSaid : Prop := channelReceiveUptoRow.holds Try.pinned (OpenSpec.upto channelReceiveSpec)

/-- 'workflowlaw16.ChannelOrder', WHERE WHAT IT READS IS OF BULK AT MOST 1048576: true; the input reads as it did. -/
def channelOrderUptoRow : OpenClaim := { program := "ytlgnflbekdldnaa", sum := "73adbc65d552593efc9599c1544b405b6d67390aff9ebf4e56846a3fb3671a75", func := "workflow/workflowlaw16.ChannelOrder", spec := "channelOrder", unfollowed := true, recurses := true, apart := false, narrowed := true }
def ChannelOrderUptoSaid : Prop := channelOrderUptoRow.holds Try.pinned (OpenSpec.upto channelOrderSpec)

/-- 'workflowlaw16.ChannelOthers', WHERE WHAT IT READS IS OF BULK AT MOST 1048576: true; the input reads as it did. -/
def channelOthersUptoRow : OpenClaim := { program := "ytlgnflbekdldnaa", sum := "73adbc65d552593efc9599c1544b405b6d67390aff9ebf4e56846a3fb3671a75", func := "workflow/workflowlaw16.ChannelOthers", spec := "channelOthers", unfollowed := true, recurses := true, loops := true, apart := false, narrowed := true }
def ChannelOthersUptoSaid : Prop := channelOthersUptoRow.holds Try.pinned (OpenSpec.upto channelOthersSpec)

/-- 'workflowlaw36.ActivityReports', WHERE WHAT IT READS IS OF BULK AT MOST 1048576: true; the input reads as it did. -/
def activityReportsUptoRow : OpenClaim := { program := "ytlgnflbekdldnaa", sum := "73adbc65d552593efc9599c1544b405b6d67390aff9ebf4e56846a3fb3671a75", func := "workflow/workflowlaw36.ActivityReports", spec := "activityReports", unfollowed := true, recurses := true, loops := true, apart := false, narrowed := true }
def ActivityReportsUptoSaid : Prop := activityReportsUptoRow.holds Try.pinned (OpenSpec.upto activityReportsSpec)

end Rows
end Go.Proofs.Ytlgnflbekdldnaa
