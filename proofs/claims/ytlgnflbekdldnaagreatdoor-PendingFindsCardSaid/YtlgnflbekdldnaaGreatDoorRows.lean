/-
  NARROWER THAN 'FOR EVERY INPUT', by the rows' own cells (each row's printed sentence says how): PendingSteps: loops, laid · PendingOrder: loops, laid · PendingBare: loops, laid · PendingFinds: loops, laid · SignalsOnce: loops, laid · SignalsOrder: loops, laid · ApplyCheck: loops, laid · ApplyEvents: loops, laid · ApplyDone: loops, laid · ApplySplit: loops, laid · ApplyFollows: loops, laid.
  DERIVED. THE GIVEN ROWS OF THIS SEAT. 11 by the template 'for every input the law returns true; each argument reads behind the call as it read before'; 0 by the template 'total and deterministic' (their statements: YtlgnflbekdldnaaGreatDoorTotals.lean).
  GIVEN WITH THE SEED: the statements are not yours to turn. If you find one false, say at which input.
  Laid BY PROGRAM, IN A SANDBOX (cutbox-rows.mjs): the forced cells as the released guide's own fill.sh prints them over the translation b721354f41e147b8… (all of the seat's roots in one cut). By AI agents, Wed Nov 11 2026. No macro, syntax, notation, axiom, sorry.
-/
import Derived.Test.YtlgnflbekdldnaaGreatDoorChecked
import GoSem.Claim
import GoSem.ClaimJoined
import GoSem.ClaimMapViews
import Derived.JoinedTies
import Derived.KernelRfl
namespace Go.Proofs.YtlgnflbekdldnaaGreatDoor
/- THE CELL 'sum', in the pinned program and in every row, IS THE sha256 OF THE DUMP (.gsa) THAT YtlgnflbekdldnaaGreatDoorProg.lean LOADS. Nothing in Lean hashes anything: it is a label: what it is worth is what the hold of that sum in a sandbox is worth. -/
noncomputable def Tryz.pinned : Pinned := { name := "ytlgnflbekdldnaagreatdoor", sum := "b721354f41e147b83457f2e9c10fd4e8b10f212ad8964bcdd837275e5fba803e", checked := Tryz.checked }
namespace Rows
def none {H : Type} : Left H := { results := [], args := [] }

/- WHAT THE LISTED PACKAGE-LEVEL VARIABLES READ AS WHEN THE CALL BEGINS. Each datum BY PROGRAM (the guide's laid-datum.mjs) off the statement by which the dump's own 'gosem.cut.vars' lays the variable. In a bare row this is a premise. The card (YtlgnflbekdldnaaGreatDoorCards.lean) ties it to the program's text. -/
def laid_math_bits_deBruijn32tab {H : Type} : DataW H := .agg [.lit (.int .u8 0), .lit (.int .u8 1), .lit (.int .u8 28), .lit (.int .u8 2), .lit (.int .u8 29), .lit (.int .u8 14), .lit (.int .u8 24), .lit (.int .u8 3), .lit (.int .u8 30), .lit (.int .u8 22), .lit (.int .u8 20), .lit (.int .u8 15), .lit (.int .u8 25), .lit (.int .u8 17), .lit (.int .u8 4), .lit (.int .u8 8), .lit (.int .u8 31), .lit (.int .u8 27), .lit (.int .u8 13), .lit (.int .u8 23), .lit (.int .u8 21), .lit (.int .u8 19), .lit (.int .u8 16), .lit (.int .u8 7), .lit (.int .u8 26), .lit (.int .u8 12), .lit (.int .u8 18), .lit (.int .u8 6), .lit (.int .u8 11), .lit (.int .u8 5), .lit (.int .u8 10), .lit (.int .u8 9)]
def laid_math_bits_deBruijn64tab {H : Type} : DataW H := .agg [.lit (.int .u8 0), .lit (.int .u8 1), .lit (.int .u8 56), .lit (.int .u8 2), .lit (.int .u8 57), .lit (.int .u8 49), .lit (.int .u8 28), .lit (.int .u8 3), .lit (.int .u8 61), .lit (.int .u8 58), .lit (.int .u8 42), .lit (.int .u8 50), .lit (.int .u8 38), .lit (.int .u8 29), .lit (.int .u8 17), .lit (.int .u8 4), .lit (.int .u8 62), .lit (.int .u8 47), .lit (.int .u8 59), .lit (.int .u8 36), .lit (.int .u8 45), .lit (.int .u8 43), .lit (.int .u8 51), .lit (.int .u8 22), .lit (.int .u8 53), .lit (.int .u8 39), .lit (.int .u8 33), .lit (.int .u8 30), .lit (.int .u8 24), .lit (.int .u8 18), .lit (.int .u8 12), .lit (.int .u8 5), .lit (.int .u8 63), .lit (.int .u8 55), .lit (.int .u8 48), .lit (.int .u8 27), .lit (.int .u8 60), .lit (.int .u8 41), .lit (.int .u8 37), .lit (.int .u8 16), .lit (.int .u8 46), .lit (.int .u8 35), .lit (.int .u8 44), .lit (.int .u8 21), .lit (.int .u8 52), .lit (.int .u8 32), .lit (.int .u8 23), .lit (.int .u8 11), .lit (.int .u8 54), .lit (.int .u8 26), .lit (.int .u8 40), .lit (.int .u8 15), .lit (.int .u8 34), .lit (.int .u8 20), .lit (.int .u8 31), .lit (.int .u8 10), .lit (.int .u8 25), .lit (.int .u8 14), .lit (.int .u8 19), .lit (.int .u8 9), .lit (.int .u8 13), .lit (.int .u8 8), .lit (.int .u8 7), .lit (.int .u8 6)]
def laid_internal_strconv_uint64pow10 {H : Type} : DataW H := .agg [.lit (.int .u64 1), .lit (.int .u64 10), .lit (.int .u64 100), .lit (.int .u64 1000), .lit (.int .u64 10000), .lit (.int .u64 100000), .lit (.int .u64 1000000), .lit (.int .u64 10000000), .lit (.int .u64 100000000), .lit (.int .u64 1000000000), .lit (.int .u64 10000000000), .lit (.int .u64 100000000000), .lit (.int .u64 1000000000000), .lit (.int .u64 10000000000000), .lit (.int .u64 100000000000000), .lit (.int .u64 1000000000000000), .lit (.int .u64 10000000000000000), .lit (.int .u64 100000000000000000), .lit (.int .u64 1000000000000000000), .lit (.int .u64 10000000000000000000)]
def laid_strconv_ErrRange {H : Type} : DataW H := .iface "*errors.errorString" (.ptr (.agg [.lit (.string [118, 97, 108, 117, 101, 32, 111, 117, 116, 32, 111, 102, 32, 114, 97, 110, 103, 101])]))
def laid_strconv_ErrSyntax {H : Type} : DataW H := .iface "*errors.errorString" (.ptr (.agg [.lit (.string [105, 110, 118, 97, 108, 105, 100, 32, 115, 121, 110, 116, 97, 120])]))

/-- 'workflowlaw25.PendingSteps': WHATEVER THE INPUT: true; the input reads as it did. -/
def pendingStepsSpec : ChangeSpec := { name := "pendingSteps", fn := fun _ => fun
  | [d] => { results := [.lit (.bool true)], args := [d] }
  | _ => none }
def pendingStepsRow : OpenClaim := { program := "ytlgnflbekdldnaagreatdoor", sum := "b721354f41e147b83457f2e9c10fd4e8b10f212ad8964bcdd837275e5fba803e", func := "workflow/workflowlaw25.PendingSteps", spec := "pendingSteps", unfollowed := true, recurses := true, named := ["strconv.ErrSyntax", "strconv.ErrRange", "internal/strconv.uint64pow10", "math/bits.deBruijn32tab", "math/bits.deBruijn64tab"], loops := true, apart := false, laid := [("math/bits.deBruijn32tab", laid_math_bits_deBruijn32tab), ("math/bits.deBruijn64tab", laid_math_bits_deBruijn64tab), ("internal/strconv.uint64pow10", laid_internal_strconv_uint64pow10), ("strconv.ErrRange", laid_strconv_ErrRange), ("strconv.ErrSyntax", laid_strconv_ErrSyntax)] }
def PendingStepsSaid : Prop := pendingStepsRow.holds Tryz.pinned (OpenSpec.ofChange pendingStepsSpec)

/-- ITS FALSE NEIGHBOUR: 'it returns false'. Refute it at one input. -/
def pendingStepsWrong : ChangeSpec := { name := "pendingSteps", fn := fun _ => fun
  | [d] => { results := [.lit (.bool false)], args := [d] }
  | _ => none }
def PendingStepsWrongFalsely : Prop := pendingStepsRow.holds Tryz.pinned (OpenSpec.ofChange pendingStepsWrong)

/-- 'workflowlaw25.PendingOrder': WHATEVER THE INPUT: true; the input reads as it did. -/
def pendingOrderSpec : ChangeSpec := { name := "pendingOrder", fn := fun _ => fun
  | [d] => { results := [.lit (.bool true)], args := [d] }
  | _ => none }
def pendingOrderRow : OpenClaim := { program := "ytlgnflbekdldnaagreatdoor", sum := "b721354f41e147b83457f2e9c10fd4e8b10f212ad8964bcdd837275e5fba803e", func := "workflow/workflowlaw25.PendingOrder", spec := "pendingOrder", unfollowed := true, recurses := true, named := ["strconv.ErrSyntax", "strconv.ErrRange", "internal/strconv.uint64pow10", "math/bits.deBruijn32tab", "math/bits.deBruijn64tab"], loops := true, apart := false, laid := [("math/bits.deBruijn32tab", laid_math_bits_deBruijn32tab), ("math/bits.deBruijn64tab", laid_math_bits_deBruijn64tab), ("internal/strconv.uint64pow10", laid_internal_strconv_uint64pow10), ("strconv.ErrRange", laid_strconv_ErrRange), ("strconv.ErrSyntax", laid_strconv_ErrSyntax)] }
def PendingOrderSaid : Prop := pendingOrderRow.holds Tryz.pinned (OpenSpec.ofChange pendingOrderSpec)

/-- ITS FALSE NEIGHBOUR: 'it returns false'. Refute it at one input. -/
def pendingOrderWrong : ChangeSpec := { name := "pendingOrder", fn := fun _ => fun
  | [d] => { results := [.lit (.bool false)], args := [d] }
  | _ => none }
def PendingOrderWrongFalsely : Prop := pendingOrderRow.holds Tryz.pinned (OpenSpec.ofChange pendingOrderWrong)

/-- 'workflowlaw25.PendingBare': WHATEVER THE INPUT: true; the input reads as it did. -/
def pendingBareSpec : ChangeSpec := { name := "pendingBare", fn := fun _ => fun
  | [d1, d2, d3, d4, d5, d6] => { results := [.lit (.bool true)], args := [d1, d2, d3, d4, d5, d6] }
  | _ => none }
def pendingBareRow : OpenClaim := { program := "ytlgnflbekdldnaagreatdoor", sum := "b721354f41e147b83457f2e9c10fd4e8b10f212ad8964bcdd837275e5fba803e", func := "workflow/workflowlaw25.PendingBare", spec := "pendingBare", unfollowed := true, recurses := true, named := ["strconv.ErrSyntax", "strconv.ErrRange", "internal/strconv.uint64pow10", "math/bits.deBruijn32tab", "math/bits.deBruijn64tab"], loops := true, apart := false, laid := [("math/bits.deBruijn32tab", laid_math_bits_deBruijn32tab), ("math/bits.deBruijn64tab", laid_math_bits_deBruijn64tab), ("internal/strconv.uint64pow10", laid_internal_strconv_uint64pow10), ("strconv.ErrRange", laid_strconv_ErrRange), ("strconv.ErrSyntax", laid_strconv_ErrSyntax)] }
def PendingBareSaid : Prop := pendingBareRow.holds Tryz.pinned (OpenSpec.ofChange pendingBareSpec)

/-- ITS FALSE NEIGHBOUR: 'it returns false'. Refute it at one input. -/
def pendingBareWrong : ChangeSpec := { name := "pendingBare", fn := fun _ => fun
  | [d1, d2, d3, d4, d5, d6] => { results := [.lit (.bool false)], args := [d1, d2, d3, d4, d5, d6] }
  | _ => none }
def PendingBareWrongFalsely : Prop := pendingBareRow.holds Tryz.pinned (OpenSpec.ofChange pendingBareWrong)

/-- 'workflowlaw25.PendingFinds': WHATEVER THE INPUT: true; the input reads as it did. -/
def pendingFindsSpec : ChangeSpec := { name := "pendingFinds", fn := fun _ => fun
  | [d1, d2, d3, d4] => { results := [.lit (.bool true)], args := [d1, d2, d3, d4] }
  | _ => none }
def pendingFindsRow : OpenClaim := { program := "ytlgnflbekdldnaagreatdoor", sum := "b721354f41e147b83457f2e9c10fd4e8b10f212ad8964bcdd837275e5fba803e", func := "workflow/workflowlaw25.PendingFinds", spec := "pendingFinds", unfollowed := true, recurses := true, named := ["strconv.ErrSyntax", "strconv.ErrRange", "internal/strconv.uint64pow10", "math/bits.deBruijn32tab", "math/bits.deBruijn64tab"], loops := true, apart := false, laid := [("math/bits.deBruijn32tab", laid_math_bits_deBruijn32tab), ("math/bits.deBruijn64tab", laid_math_bits_deBruijn64tab), ("internal/strconv.uint64pow10", laid_internal_strconv_uint64pow10), ("strconv.ErrRange", laid_strconv_ErrRange), ("strconv.ErrSyntax", laid_strconv_ErrSyntax)] }
def PendingFindsSaid : Prop := pendingFindsRow.holds Tryz.pinned (OpenSpec.ofChange pendingFindsSpec)

/-- ITS FALSE NEIGHBOUR: 'it returns false'. Refute it at one input. -/
def pendingFindsWrong : ChangeSpec := { name := "pendingFinds", fn := fun _ => fun
  | [d1, d2, d3, d4] => { results := [.lit (.bool false)], args := [d1, d2, d3, d4] }
  | _ => none }
def PendingFindsWrongFalsely : Prop := pendingFindsRow.holds Tryz.pinned (OpenSpec.ofChange pendingFindsWrong)

/-- 'workflowlaw32.SignalsOnce': WHATEVER THE INPUT: true; the input reads as it did. -/
def signalsOnceSpec : ChangeSpec := { name := "signalsOnce", fn := fun _ => fun
  | [d1, d2, d3] => { results := [.lit (.bool true)], args := [d1, d2, d3] }
  | _ => none }
def signalsOnceRow : OpenClaim := { program := "ytlgnflbekdldnaagreatdoor", sum := "b721354f41e147b83457f2e9c10fd4e8b10f212ad8964bcdd837275e5fba803e", func := "workflow/workflowlaw32.SignalsOnce", spec := "signalsOnce", unfollowed := true, recurses := true, named := ["strconv.ErrSyntax", "strconv.ErrRange", "internal/strconv.uint64pow10", "math/bits.deBruijn32tab", "math/bits.deBruijn64tab"], loops := true, apart := false, laid := [("math/bits.deBruijn32tab", laid_math_bits_deBruijn32tab), ("math/bits.deBruijn64tab", laid_math_bits_deBruijn64tab), ("internal/strconv.uint64pow10", laid_internal_strconv_uint64pow10), ("strconv.ErrRange", laid_strconv_ErrRange), ("strconv.ErrSyntax", laid_strconv_ErrSyntax)] }
def SignalsOnceSaid : Prop := signalsOnceRow.holds Tryz.pinned (OpenSpec.ofChange signalsOnceSpec)

/-- ITS FALSE NEIGHBOUR: 'it returns false'. Refute it at one input. -/
def signalsOnceWrong : ChangeSpec := { name := "signalsOnce", fn := fun _ => fun
  | [d1, d2, d3] => { results := [.lit (.bool false)], args := [d1, d2, d3] }
  | _ => none }
def SignalsOnceWrongFalsely : Prop := signalsOnceRow.holds Tryz.pinned (OpenSpec.ofChange signalsOnceWrong)

/-- 'workflowlaw32.SignalsOrder': WHATEVER THE INPUT: true; the input reads as it did. -/
def signalsOrderSpec : ChangeSpec := { name := "signalsOrder", fn := fun _ => fun
  | [d1, d2, d3] => { results := [.lit (.bool true)], args := [d1, d2, d3] }
  | _ => none }
def signalsOrderRow : OpenClaim := { program := "ytlgnflbekdldnaagreatdoor", sum := "b721354f41e147b83457f2e9c10fd4e8b10f212ad8964bcdd837275e5fba803e", func := "workflow/workflowlaw32.SignalsOrder", spec := "signalsOrder", unfollowed := true, recurses := true, named := ["strconv.ErrSyntax", "strconv.ErrRange", "internal/strconv.uint64pow10", "math/bits.deBruijn32tab", "math/bits.deBruijn64tab"], loops := true, apart := false, laid := [("math/bits.deBruijn32tab", laid_math_bits_deBruijn32tab), ("math/bits.deBruijn64tab", laid_math_bits_deBruijn64tab), ("internal/strconv.uint64pow10", laid_internal_strconv_uint64pow10), ("strconv.ErrRange", laid_strconv_ErrRange), ("strconv.ErrSyntax", laid_strconv_ErrSyntax)] }
def SignalsOrderSaid : Prop := signalsOrderRow.holds Tryz.pinned (OpenSpec.ofChange signalsOrderSpec)

/-- ITS FALSE NEIGHBOUR: 'it returns false'. Refute it at one input. -/
def signalsOrderWrong : ChangeSpec := { name := "signalsOrder", fn := fun _ => fun
  | [d1, d2, d3] => { results := [.lit (.bool false)], args := [d1, d2, d3] }
  | _ => none }
def SignalsOrderWrongFalsely : Prop := signalsOrderRow.holds Tryz.pinned (OpenSpec.ofChange signalsOrderWrong)

/-- 'workflowlaw26.ApplyCheck': WHATEVER THE INPUT: true; the input reads as it did. -/
def applyCheckSpec : ChangeSpec := { name := "applyCheck", fn := fun _ => fun
  | [d1, d2] => { results := [.lit (.bool true)], args := [d1, d2] }
  | _ => none }
def applyCheckRow : OpenClaim := { program := "ytlgnflbekdldnaagreatdoor", sum := "b721354f41e147b83457f2e9c10fd4e8b10f212ad8964bcdd837275e5fba803e", func := "workflow/workflowlaw26.ApplyCheck", spec := "applyCheck", unfollowed := true, recurses := true, named := ["strconv.ErrSyntax", "strconv.ErrRange", "internal/strconv.uint64pow10", "math/bits.deBruijn32tab", "math/bits.deBruijn64tab"], loops := true, apart := false, laid := [("math/bits.deBruijn32tab", laid_math_bits_deBruijn32tab), ("math/bits.deBruijn64tab", laid_math_bits_deBruijn64tab), ("internal/strconv.uint64pow10", laid_internal_strconv_uint64pow10), ("strconv.ErrRange", laid_strconv_ErrRange), ("strconv.ErrSyntax", laid_strconv_ErrSyntax)] }
def ApplyCheckSaid : Prop := applyCheckRow.holds Tryz.pinned (OpenSpec.ofChange applyCheckSpec)

/-- ITS FALSE NEIGHBOUR: 'it returns false'. Refute it at one input. -/
def applyCheckWrong : ChangeSpec := { name := "applyCheck", fn := fun _ => fun
  | [d1, d2] => { results := [.lit (.bool false)], args := [d1, d2] }
  | _ => none }
def ApplyCheckWrongFalsely : Prop := applyCheckRow.holds Tryz.pinned (OpenSpec.ofChange applyCheckWrong)

/-- 'workflowlaw26.ApplyEvents': WHATEVER THE INPUT: true; the input reads as it did. -/
def applyEventsSpec : ChangeSpec := { name := "applyEvents", fn := fun _ => fun
  | [d1, d2, d3] => { results := [.lit (.bool true)], args := [d1, d2, d3] }
  | _ => none }
def applyEventsRow : OpenClaim := { program := "ytlgnflbekdldnaagreatdoor", sum := "b721354f41e147b83457f2e9c10fd4e8b10f212ad8964bcdd837275e5fba803e", func := "workflow/workflowlaw26.ApplyEvents", spec := "applyEvents", unfollowed := true, recurses := true, named := ["strconv.ErrSyntax", "strconv.ErrRange", "internal/strconv.uint64pow10", "math/bits.deBruijn32tab", "math/bits.deBruijn64tab"], loops := true, apart := false, laid := [("math/bits.deBruijn32tab", laid_math_bits_deBruijn32tab), ("math/bits.deBruijn64tab", laid_math_bits_deBruijn64tab), ("internal/strconv.uint64pow10", laid_internal_strconv_uint64pow10), ("strconv.ErrRange", laid_strconv_ErrRange), ("strconv.ErrSyntax", laid_strconv_ErrSyntax)] }
def ApplyEventsSaid : Prop := applyEventsRow.holds Tryz.pinned (OpenSpec.ofChange applyEventsSpec)

/-- ITS FALSE NEIGHBOUR: 'it returns false'. Refute it at one input. -/
def applyEventsWrong : ChangeSpec := { name := "applyEvents", fn := fun _ => fun
  | [d1, d2, d3] => { results := [.lit (.bool false)], args := [d1, d2, d3] }
  | _ => none }
def ApplyEventsWrongFalsely : Prop := applyEventsRow.holds Tryz.pinned (OpenSpec.ofChange applyEventsWrong)

/-- 'workflowlaw26.ApplyDone': WHATEVER THE INPUT: true; the input reads as it did. -/
def applyDoneSpec : ChangeSpec := { name := "applyDone", fn := fun _ => fun
  | [d1, d2, d3] => { results := [.lit (.bool true)], args := [d1, d2, d3] }
  | _ => none }
def applyDoneRow : OpenClaim := { program := "ytlgnflbekdldnaagreatdoor", sum := "b721354f41e147b83457f2e9c10fd4e8b10f212ad8964bcdd837275e5fba803e", func := "workflow/workflowlaw26.ApplyDone", spec := "applyDone", unfollowed := true, recurses := true, named := ["strconv.ErrSyntax", "strconv.ErrRange", "internal/strconv.uint64pow10", "math/bits.deBruijn32tab", "math/bits.deBruijn64tab"], loops := true, apart := false, laid := [("math/bits.deBruijn32tab", laid_math_bits_deBruijn32tab), ("math/bits.deBruijn64tab", laid_math_bits_deBruijn64tab), ("internal/strconv.uint64pow10", laid_internal_strconv_uint64pow10), ("strconv.ErrRange", laid_strconv_ErrRange), ("strconv.ErrSyntax", laid_strconv_ErrSyntax)] }
def ApplyDoneSaid : Prop := applyDoneRow.holds Tryz.pinned (OpenSpec.ofChange applyDoneSpec)

/-- ITS FALSE NEIGHBOUR: 'it returns false'. Refute it at one input. -/
def applyDoneWrong : ChangeSpec := { name := "applyDone", fn := fun _ => fun
  | [d1, d2, d3] => { results := [.lit (.bool false)], args := [d1, d2, d3] }
  | _ => none }
def ApplyDoneWrongFalsely : Prop := applyDoneRow.holds Tryz.pinned (OpenSpec.ofChange applyDoneWrong)

/-- 'workflowlaw26.ApplySplit': WHATEVER THE INPUT: true; the input reads as it did. -/
def applySplitSpec : ChangeSpec := { name := "applySplit", fn := fun _ => fun
  | [d1, d2, d3, d4] => { results := [.lit (.bool true)], args := [d1, d2, d3, d4] }
  | _ => none }
def applySplitRow : OpenClaim := { program := "ytlgnflbekdldnaagreatdoor", sum := "b721354f41e147b83457f2e9c10fd4e8b10f212ad8964bcdd837275e5fba803e", func := "workflow/workflowlaw26.ApplySplit", spec := "applySplit", unfollowed := true, recurses := true, named := ["strconv.ErrSyntax", "strconv.ErrRange", "internal/strconv.uint64pow10", "math/bits.deBruijn32tab", "math/bits.deBruijn64tab"], loops := true, apart := false, laid := [("math/bits.deBruijn32tab", laid_math_bits_deBruijn32tab), ("math/bits.deBruijn64tab", laid_math_bits_deBruijn64tab), ("internal/strconv.uint64pow10", laid_internal_strconv_uint64pow10), ("strconv.ErrRange", laid_strconv_ErrRange), ("strconv.ErrSyntax", laid_strconv_ErrSyntax)] }
def ApplySplitSaid : Prop := applySplitRow.holds Tryz.pinned (OpenSpec.ofChange applySplitSpec)

/-- ITS FALSE NEIGHBOUR: 'it returns false'. Refute it at one input. -/
def applySplitWrong : ChangeSpec := { name := "applySplit", fn := fun _ => fun
  | [d1, d2, d3, d4] => { results := [.lit (.bool false)], args := [d1, d2, d3, d4] }
  | _ => none }
def ApplySplitWrongFalsely : Prop := applySplitRow.holds Tryz.pinned (OpenSpec.ofChange applySplitWrong)

/-- 'workflowlaw26.ApplyFollows': WHATEVER THE INPUT: true; the input reads as it did. -/
def applyFollowsSpec : ChangeSpec := { name := "applyFollows", fn := fun _ => fun
  | [d1, d2, d3] => { results := [.lit (.bool true)], args := [d1, d2, d3] }
  | _ => none }
def applyFollowsRow : OpenClaim := { program := "ytlgnflbekdldnaagreatdoor", sum := "b721354f41e147b83457f2e9c10fd4e8b10f212ad8964bcdd837275e5fba803e", func := "workflow/workflowlaw26.ApplyFollows", spec := "applyFollows", unfollowed := true, recurses := true, named := ["strconv.ErrSyntax", "strconv.ErrRange", "internal/strconv.uint64pow10", "math/bits.deBruijn32tab", "math/bits.deBruijn64tab"], loops := true, apart := false, laid := [("math/bits.deBruijn32tab", laid_math_bits_deBruijn32tab), ("math/bits.deBruijn64tab", laid_math_bits_deBruijn64tab), ("internal/strconv.uint64pow10", laid_internal_strconv_uint64pow10), ("strconv.ErrRange", laid_strconv_ErrRange), ("strconv.ErrSyntax", laid_strconv_ErrSyntax)] }
def ApplyFollowsSaid : Prop := applyFollowsRow.holds Tryz.pinned (OpenSpec.ofChange applyFollowsSpec)

/-- ITS FALSE NEIGHBOUR: 'it returns false'. Refute it at one input. -/
def applyFollowsWrong : ChangeSpec := { name := "applyFollows", fn := fun _ => fun
  | [d1, d2, d3] => { results := [.lit (.bool false)], args := [d1, d2, d3] }
  | _ => none }
def ApplyFollowsWrongFalsely : Prop := applyFollowsRow.holds Tryz.pinned (OpenSpec.ofChange applyFollowsWrong)

/- THE SECOND FORM. 'bulk': how many values and letters a reading holds, each counted each time it is reached (what is shared counts as often as it is met; a slice's spare places count too). A statement '..UptoSaid' is the law's where the arguments, and the package variables that the reading takes, are together of bulk at most 1048576: NARROWER than '..Said'. Prove '..Said' where nothing that the law and all that it calls make is longer than what came in: it says more and counts as full. Else prove '..UptoSaid'. A law counts once. -/
mutual
def uptoBulk {H : Type} : DataW H → Nat
  | .lit (.string bytes) => bytes.length + 1
  | .lit _ => 1
  | .nil => 1
  | .ptr d => uptoBulk d + 1
  | .slice elems spare => uptoBulkAll elems + uptoBulkAll spare + 1
  | .agg parts => uptoBulkAll parts + 1
  | .iface _ d => uptoBulk d + 1
  | .map entries => uptoBulkEntries entries + 1
  | .held _ => 1
def uptoBulkAll {H : Type} : List (DataW H) → Nat
  | [] => 0
  | d :: r => uptoBulk d + uptoBulkAll r
def uptoBulkEntries {H : Type} : List (Lit × DataW H) → Nat
  | [] => 0
  | x :: r => uptoBulkEntry x + uptoBulkEntries r
def uptoBulkEntry {H : Type} : Lit × DataW H → Nat
  | (.string bytes, d) => bytes.length + uptoBulk d + 1
  | (_, d) => uptoBulk d + 1
 end
def uptoSmall : (H : Type) → List (DataW H) → Bool := fun _ ds => decide (uptoBulkAll ds ≤ 1048576)
def OpenSpec.upto (s : _root_.Go.ChangeSpec) : _root_.Go.OpenSpec := { _root_.Go.OpenSpec.ofChange s with cond := some uptoSmall }

/-- 'workflowlaw25.PendingSteps', WHERE WHAT IT READS IS OF BULK AT MOST 1048576: true; the input reads as it did. -/
def pendingStepsUptoRow : OpenClaim := { program := "ytlgnflbekdldnaagreatdoor", sum := "b721354f41e147b83457f2e9c10fd4e8b10f212ad8964bcdd837275e5fba803e", func := "workflow/workflowlaw25.PendingSteps", spec := "pendingSteps", unfollowed := true, recurses := true, named := ["strconv.ErrSyntax", "strconv.ErrRange", "internal/strconv.uint64pow10", "math/bits.deBruijn32tab", "math/bits.deBruijn64tab"], loops := true, apart := false, laid := [("math/bits.deBruijn32tab", laid_math_bits_deBruijn32tab), ("math/bits.deBruijn64tab", laid_math_bits_deBruijn64tab), ("internal/strconv.uint64pow10", laid_internal_strconv_uint64pow10), ("strconv.ErrRange", laid_strconv_ErrRange), ("strconv.ErrSyntax", laid_strconv_ErrSyntax)], narrowed := true }
def PendingStepsUptoSaid : Prop := pendingStepsUptoRow.holds Tryz.pinned (OpenSpec.upto pendingStepsSpec)

/-- 'workflowlaw25.PendingOrder', WHERE WHAT IT READS IS OF BULK AT MOST 1048576: true; the input reads as it did. -/
def pendingOrderUptoRow : OpenClaim := { program := "ytlgnflbekdldnaagreatdoor", sum := "b721354f41e147b83457f2e9c10fd4e8b10f212ad8964bcdd837275e5fba803e", func := "workflow/workflowlaw25.PendingOrder", spec := "pendingOrder", unfollowed := true, recurses := true, named := ["strconv.ErrSyntax", "strconv.ErrRange", "internal/strconv.uint64pow10", "math/bits.deBruijn32tab", "math/bits.deBruijn64tab"], loops := true, apart := false, laid := [("math/bits.deBruijn32tab", laid_math_bits_deBruijn32tab), ("math/bits.deBruijn64tab", laid_math_bits_deBruijn64tab), ("internal/strconv.uint64pow10", laid_internal_strconv_uint64pow10), ("strconv.ErrRange", laid_strconv_ErrRange), ("strconv.ErrSyntax", laid_strconv_ErrSyntax)], narrowed := true }
def PendingOrderUptoSaid : Prop := pendingOrderUptoRow.holds Tryz.pinned (OpenSpec.upto pendingOrderSpec)

/-- 'workflowlaw25.PendingBare', WHERE WHAT IT READS IS OF BULK AT MOST 1048576: true; the input reads as it did. -/
def pendingBareUptoRow : OpenClaim := { program := "ytlgnflbekdldnaagreatdoor", sum := "b721354f41e147b83457f2e9c10fd4e8b10f212ad8964bcdd837275e5fba803e", func := "workflow/workflowlaw25.PendingBare", spec := "pendingBare", unfollowed := true, recurses := true, named := ["strconv.ErrSyntax", "strconv.ErrRange", "internal/strconv.uint64pow10", "math/bits.deBruijn32tab", "math/bits.deBruijn64tab"], loops := true, apart := false, laid := [("math/bits.deBruijn32tab", laid_math_bits_deBruijn32tab), ("math/bits.deBruijn64tab", laid_math_bits_deBruijn64tab), ("internal/strconv.uint64pow10", laid_internal_strconv_uint64pow10), ("strconv.ErrRange", laid_strconv_ErrRange), ("strconv.ErrSyntax", laid_strconv_ErrSyntax)], narrowed := true }
def PendingBareUptoSaid : Prop := pendingBareUptoRow.holds Tryz.pinned (OpenSpec.upto pendingBareSpec)

/-- 'workflowlaw25.PendingFinds', WHERE WHAT IT READS IS OF BULK AT MOST 1048576: true; the input reads as it did. -/
def pendingFindsUptoRow : OpenClaim := { program := "ytlgnflbekdldnaagreatdoor", sum := "b721354f41e147b83457f2e9c10fd4e8b10f212ad8964bcdd837275e5fba803e", func := "workflow/workflowlaw25.PendingFinds", spec := "pendingFinds", unfollowed := true, recurses := true, named := ["strconv.ErrSyntax", "strconv.ErrRange", "internal/strconv.uint64pow10", "math/bits.deBruijn32tab", "math/bits.deBruijn64tab"], loops := true, apart := false, laid := [("math/bits.deBruijn32tab", laid_math_bits_deBruijn32tab), ("math/bits.deBruijn64tab", laid_math_bits_deBruijn64tab), ("internal/strconv.uint64pow10", laid_internal_strconv_uint64pow10), ("strconv.ErrRange", laid_strconv_ErrRange), ("strconv.ErrSyntax", laid_strconv_ErrSyntax)], narrowed := true }
def PendingFindsUptoSaid : Prop := pendingFindsUptoRow.holds Tryz.pinned (OpenSpec.upto pendingFindsSpec)

/-- 'workflowlaw32.SignalsOnce', WHERE WHAT IT READS IS OF BULK AT MOST 1048576: true; the input reads as it did. -/
def signalsOnceUptoRow : OpenClaim := { program := "ytlgnflbekdldnaagreatdoor", sum := "b721354f41e147b83457f2e9c10fd4e8b10f212ad8964bcdd837275e5fba803e", func := "workflow/workflowlaw32.SignalsOnce", spec := "signalsOnce", unfollowed := true, recurses := true, named := ["strconv.ErrSyntax", "strconv.ErrRange", "internal/strconv.uint64pow10", "math/bits.deBruijn32tab", "math/bits.deBruijn64tab"], loops := true, apart := false, laid := [("math/bits.deBruijn32tab", laid_math_bits_deBruijn32tab), ("math/bits.deBruijn64tab", laid_math_bits_deBruijn64tab), ("internal/strconv.uint64pow10", laid_internal_strconv_uint64pow10), ("strconv.ErrRange", laid_strconv_ErrRange), ("strconv.ErrSyntax", laid_strconv_ErrSyntax)], narrowed := true }
def SignalsOnceUptoSaid : Prop := signalsOnceUptoRow.holds Tryz.pinned (OpenSpec.upto signalsOnceSpec)

/-- 'workflowlaw32.SignalsOrder', WHERE WHAT IT READS IS OF BULK AT MOST 1048576: true; the input reads as it did. -/
def signalsOrderUptoRow : OpenClaim := { program := "ytlgnflbekdldnaagreatdoor", sum := "b721354f41e147b83457f2e9c10fd4e8b10f212ad8964bcdd837275e5fba803e", func := "workflow/workflowlaw32.SignalsOrder", spec := "signalsOrder", unfollowed := true, recurses := true, named := ["strconv.ErrSyntax", "strconv.ErrRange", "internal/strconv.uint64pow10", "math/bits.deBruijn32tab", "math/bits.deBruijn64tab"], loops := true, apart := false, laid := [("math/bits.deBruijn32tab", laid_math_bits_deBruijn32tab), ("math/bits.deBruijn64tab", laid_math_bits_deBruijn64tab), ("internal/strconv.uint64pow10", laid_internal_strconv_uint64pow10), ("strconv.ErrRange", laid_strconv_ErrRange), ("strconv.ErrSyntax", laid_strconv_ErrSyntax)], narrowed := true }
def SignalsOrderUptoSaid : Prop := signalsOrderUptoRow.holds Tryz.pinned (OpenSpec.upto signalsOrderSpec)

/-- 'workflowlaw26.ApplyCheck', WHERE WHAT IT READS IS OF BULK AT MOST 1048576: true; the input reads as it did. -/
def applyCheckUptoRow : OpenClaim := { program := "ytlgnflbekdldnaagreatdoor", sum := "b721354f41e147b83457f2e9c10fd4e8b10f212ad8964bcdd837275e5fba803e", func := "workflow/workflowlaw26.ApplyCheck", spec := "applyCheck", unfollowed := true, recurses := true, named := ["strconv.ErrSyntax", "strconv.ErrRange", "internal/strconv.uint64pow10", "math/bits.deBruijn32tab", "math/bits.deBruijn64tab"], loops := true, apart := false, laid := [("math/bits.deBruijn32tab", laid_math_bits_deBruijn32tab), ("math/bits.deBruijn64tab", laid_math_bits_deBruijn64tab), ("internal/strconv.uint64pow10", laid_internal_strconv_uint64pow10), ("strconv.ErrRange", laid_strconv_ErrRange), ("strconv.ErrSyntax", laid_strconv_ErrSyntax)], narrowed := true }
def ApplyCheckUptoSaid : Prop := applyCheckUptoRow.holds Tryz.pinned (OpenSpec.upto applyCheckSpec)

/-- 'workflowlaw26.ApplyEvents', WHERE WHAT IT READS IS OF BULK AT MOST 1048576: true; the input reads as it did. -/
def applyEventsUptoRow : OpenClaim := { program := "ytlgnflbekdldnaagreatdoor", sum := "b721354f41e147b83457f2e9c10fd4e8b10f212ad8964bcdd837275e5fba803e", func := "workflow/workflowlaw26.ApplyEvents", spec := "applyEvents", unfollowed := true, recurses := true, named := ["strconv.ErrSyntax", "strconv.ErrRange", "internal/strconv.uint64pow10", "math/bits.deBruijn32tab", "math/bits.deBruijn64tab"], loops := true, apart := false, laid := [("math/bits.deBruijn32tab", laid_math_bits_deBruijn32tab), ("math/bits.deBruijn64tab", laid_math_bits_deBruijn64tab), ("internal/strconv.uint64pow10", laid_internal_strconv_uint64pow10), ("strconv.ErrRange", laid_strconv_ErrRange), ("strconv.ErrSyntax", laid_strconv_ErrSyntax)], narrowed := true }
def ApplyEventsUptoSaid : Prop := applyEventsUptoRow.holds Tryz.pinned (OpenSpec.upto applyEventsSpec)

/-- 'workflowlaw26.ApplyDone', WHERE WHAT IT READS IS OF BULK AT MOST 1048576: true; the input reads as it did. -/
def applyDoneUptoRow : OpenClaim := { program := "ytlgnflbekdldnaagreatdoor", sum := "b721354f41e147b83457f2e9c10fd4e8b10f212ad8964bcdd837275e5fba803e", func := "workflow/workflowlaw26.ApplyDone", spec := "applyDone", unfollowed := true, recurses := true, named := ["strconv.ErrSyntax", "strconv.ErrRange", "internal/strconv.uint64pow10", "math/bits.deBruijn32tab", "math/bits.deBruijn64tab"], loops := true, apart := false, laid := [("math/bits.deBruijn32tab", laid_math_bits_deBruijn32tab), ("math/bits.deBruijn64tab", laid_math_bits_deBruijn64tab), ("internal/strconv.uint64pow10", laid_internal_strconv_uint64pow10), ("strconv.ErrRange", laid_strconv_ErrRange), ("strconv.ErrSyntax", laid_strconv_ErrSyntax)], narrowed := true }
def ApplyDoneUptoSaid : Prop := applyDoneUptoRow.holds Tryz.pinned (OpenSpec.upto applyDoneSpec)

/-- 'workflowlaw26.ApplySplit', WHERE WHAT IT READS IS OF BULK AT MOST 1048576: true; the input reads as it did. -/
def applySplitUptoRow : OpenClaim := { program := "ytlgnflbekdldnaagreatdoor", sum := "b721354f41e147b83457f2e9c10fd4e8b10f212ad8964bcdd837275e5fba803e", func := "workflow/workflowlaw26.ApplySplit", spec := "applySplit", unfollowed := true, recurses := true, named := ["strconv.ErrSyntax", "strconv.ErrRange", "internal/strconv.uint64pow10", "math/bits.deBruijn32tab", "math/bits.deBruijn64tab"], loops := true, apart := false, laid := [("math/bits.deBruijn32tab", laid_math_bits_deBruijn32tab), ("math/bits.deBruijn64tab", laid_math_bits_deBruijn64tab), ("internal/strconv.uint64pow10", laid_internal_strconv_uint64pow10), ("strconv.ErrRange", laid_strconv_ErrRange), ("strconv.ErrSyntax", laid_strconv_ErrSyntax)], narrowed := true }
def ApplySplitUptoSaid : Prop := applySplitUptoRow.holds Tryz.pinned (OpenSpec.upto applySplitSpec)

/-- 'workflowlaw26.ApplyFollows', WHERE WHAT IT READS IS OF BULK AT MOST 1048576: true; the input reads as it did. -/
def applyFollowsUptoRow : OpenClaim := { program := "ytlgnflbekdldnaagreatdoor", sum := "b721354f41e147b83457f2e9c10fd4e8b10f212ad8964bcdd837275e5fba803e", func := "workflow/workflowlaw26.ApplyFollows", spec := "applyFollows", unfollowed := true, recurses := true, named := ["strconv.ErrSyntax", "strconv.ErrRange", "internal/strconv.uint64pow10", "math/bits.deBruijn32tab", "math/bits.deBruijn64tab"], loops := true, apart := false, laid := [("math/bits.deBruijn32tab", laid_math_bits_deBruijn32tab), ("math/bits.deBruijn64tab", laid_math_bits_deBruijn64tab), ("internal/strconv.uint64pow10", laid_internal_strconv_uint64pow10), ("strconv.ErrRange", laid_strconv_ErrRange), ("strconv.ErrSyntax", laid_strconv_ErrSyntax)], narrowed := true }
def ApplyFollowsUptoSaid : Prop := applyFollowsUptoRow.holds Tryz.pinned (OpenSpec.upto applyFollowsSpec)

end Rows
end Go.Proofs.YtlgnflbekdldnaaGreatDoor
