/- Texts AvHz AvLz. -/
import Derived.Test.YtlgnflbekdldnaaGreatDoorRows
import Derived.WalkKit
import Derived.ProofKit
import Derived.LaidLaws
import Derived.LaidMore
import Derived.LaidHandle
import Derived.OpenShut
import Derived.MakeChecks
import Derived.Stop.LaidErr
import Derived.Lib.LaidTab
import Derived.SevenTiedAt
import Derived.Test.YtlgnflbekdldnaaGreatDoorAvK41
set_option linter.unusedVariables false
set_option linter.unusedSimpArgs false
set_option linter.unusedSectionVars false
noncomputable section
set_option maxRecDepth 100000
namespace Go.Proofs
open Go
def Tryz.signs : List Char := [Char.ofNat 104, Char.ofNat 97, Char.ofNat 114, Char.ofNat 110, Char.ofNat 101, Char.ofNat 115, Char.ofNat 115, Char.ofNat 32, Char.ofNat 56, Char.ofNat 54, Char.ofNat 57, Char.ofNat 54, Char.ofNat 55, Char.ofNat 54, Char.ofNat 98, Char.ofNat 99, Char.ofNat 55, Char.ofNat 49, Char.ofNat 50, Char.ofNat 56, Char.ofNat 102, Char.ofNat 56, Char.ofNat 51, Char.ofNat 51, Char.ofNat 98, Char.ofNat 48, Char.ofNat 50, Char.ofNat 52, Char.ofNat 102, Char.ofNat 54, Char.ofNat 98, Char.ofNat 50, Char.ofNat 54, Char.ofNat 102, Char.ofNat 49, Char.ofNat 100, Char.ofNat 102, Char.ofNat 101, Char.ofNat 50, Char.ofNat 50, Char.ofNat 50, Char.ofNat 57, Char.ofNat 57, Char.ofNat 52, Char.ofNat 49, Char.ofNat 53, Char.ofNat 57, Char.ofNat 49, Char.ofNat 54, Char.ofNat 99, Char.ofNat 55, Char.ofNat 49, Char.ofNat 98, Char.ofNat 53, Char.ofNat 49, Char.ofNat 101, Char.ofNat 51, Char.ofNat 57, Char.ofNat 51, Char.ofNat 48, Char.ofNat 54, Char.ofNat 54, Char.ofNat 51, Char.ofNat 50, Char.ofNat 52, Char.ofNat 97, Char.ofNat 49, Char.ofNat 55, Char.ofNat 102, Char.ofNat 53, Char.ofNat 57, Char.ofNat 48, Char.ofNat 32, Char.ofNat 99, Char.ofNat 117, Char.ofNat 116, Char.ofNat 32, Char.ofNat 97, Char.ofNat 116, Char.ofNat 32, Char.ofNat 119, Char.ofNat 111, Char.ofNat 114, Char.ofNat 107, Char.ofNat 102, Char.ofNat 108, Char.ofNat 111, Char.ofNat 119, Char.ofNat 47, Char.ofNat 119, Char.ofNat 111, Char.ofNat 114, Char.ofNat 107, Char.ofNat 102, Char.ofNat 108, Char.ofNat 111, Char.ofNat 119, Char.ofNat 108, Char.ofNat 97, Char.ofNat 119, Char.ofNat 50, Char.ofNat 53, Char.ofNat 46, Char.ofNat 80, Char.ofNat 101, Char.ofNat 110, Char.ofNat 100, Char.ofNat 105, Char.ofNat 110, Char.ofNat 103, Char.ofNat 83, Char.ofNat 116, Char.ofNat 101, Char.ofNat 112, Char.ofNat 115, Char.ofNat 32, Char.ofNat 119, Char.ofNat 111, Char.ofNat 114, Char.ofNat 107, Char.ofNat 102, Char.ofNat 108, Char.ofNat 111, Char.ofNat 119, Char.ofNat 47, Char.ofNat 119, Char.ofNat 111, Char.ofNat 114, Char.ofNat 107, Char.ofNat 102, Char.ofNat 108, Char.ofNat 111, Char.ofNat 119, Char.ofNat 108, Char.ofNat 97, Char.ofNat 119, Char.ofNat 50, Char.ofNat 53, Char.ofNat 46, Char.ofNat 80, Char.ofNat 101, Char.ofNat 110, Char.ofNat 100, Char.ofNat 105, Char.ofNat 110, Char.ofNat 103, Char.ofNat 79, Char.ofNat 114, Char.ofNat 100, Char.ofNat 101, Char.ofNat 114, Char.ofNat 32, Char.ofNat 119, Char.ofNat 111, Char.ofNat 114, Char.ofNat 107, Char.ofNat 102, Char.ofNat 108, Char.ofNat 111, Char.ofNat 119, Char.ofNat 47, Char.ofNat 119, Char.ofNat 111, Char.ofNat 114, Char.ofNat 107, Char.ofNat 102, Char.ofNat 108, Char.ofNat 111, Char.ofNat 119, Char.ofNat 108, Char.ofNat 97, Char.ofNat 119, Char.ofNat 50, Char.ofNat 53, Char.ofNat 46, Char.ofNat 80, Char.ofNat 101, Char.ofNat 110, Char.ofNat 100, Char.ofNat 105, Char.ofNat 110, Char.ofNat 103, Char.ofNat 66, Char.ofNat 97, Char.ofNat 114, Char.ofNat 101, Char.ofNat 32, Char.ofNat 119, Char.ofNat 111, Char.ofNat 114, Char.ofNat 107, Char.ofNat 102, Char.ofNat 108, Char.ofNat 111, Char.ofNat 119, Char.ofNat 47, Char.ofNat 119, Char.ofNat 111, Char.ofNat 114, Char.ofNat 107, Char.ofNat 102, Char.ofNat 108, Char.ofNat 111, Char.ofNat 119, Char.ofNat 108, Char.ofNat 97, Char.ofNat 119, Char.ofNat 50, Char.ofNat 53, Char.ofNat 46, Char.ofNat 80, Char.ofNat 101, Char.ofNat 110, Char.ofNat 100, Char.ofNat 105, Char.ofNat 110, Char.ofNat 103, Char.ofNat 70, Char.ofNat 105, Char.ofNat 110, Char.ofNat 100, Char.ofNat 115, Char.ofNat 32, Char.ofNat 119, Char.ofNat 111, Char.ofNat 114, Char.ofNat 107, Char.ofNat 102, Char.ofNat 108, Char.ofNat 111, Char.ofNat 119, Char.ofNat 47, Char.ofNat 119, Char.ofNat 111, Char.ofNat 114, Char.ofNat 107, Char.ofNat 102, Char.ofNat 108, Char.ofNat 111, Char.ofNat 119, Char.ofNat 108, Char.ofNat 97, Char.ofNat 119, Char.ofNat 51, Char.ofNat 50, Char.ofNat 46, Char.ofNat 83, Char.ofNat 105, Char.ofNat 103, Char.ofNat 110, Char.ofNat 97, Char.ofNat 108, Char.ofNat 115, Char.ofNat 79, Char.ofNat 110, Char.ofNat 99, Char.ofNat 101, Char.ofNat 32, Char.ofNat 119, Char.ofNat 111, Char.ofNat 114, Char.ofNat 107, Char.ofNat 102, Char.ofNat 108, Char.ofNat 111, Char.ofNat 119, Char.ofNat 47, Char.ofNat 119, Char.ofNat 111, Char.ofNat 114, Char.ofNat 107, Char.ofNat 102, Char.ofNat 108, Char.ofNat 111, Char.ofNat 119, Char.ofNat 108, Char.ofNat 97, Char.ofNat 119, Char.ofNat 51, Char.ofNat 50, Char.ofNat 46, Char.ofNat 83, Char.ofNat 105, Char.ofNat 103, Char.ofNat 110, Char.ofNat 97, Char.ofNat 108, Char.ofNat 115, Char.ofNat 79, Char.ofNat 114, Char.ofNat 100, Char.ofNat 101, Char.ofNat 114, Char.ofNat 32, Char.ofNat 119, Char.ofNat 111, Char.ofNat 114, Char.ofNat 107, Char.ofNat 102, Char.ofNat 108, Char.ofNat 111, Char.ofNat 119, Char.ofNat 47, Char.ofNat 119, Char.ofNat 111, Char.ofNat 114, Char.ofNat 107, Char.ofNat 102, Char.ofNat 108, Char.ofNat 111, Char.ofNat 119, Char.ofNat 108, Char.ofNat 97, Char.ofNat 119, Char.ofNat 50, Char.ofNat 54, Char.ofNat 46, Char.ofNat 65, Char.ofNat 112, Char.ofNat 112, Char.ofNat 108, Char.ofNat 121, Char.ofNat 67, Char.ofNat 104, Char.ofNat 101, Char.ofNat 99, Char.ofNat 107, Char.ofNat 32, Char.ofNat 119, Char.ofNat 111, Char.ofNat 114, Char.ofNat 107, Char.ofNat 102, Char.ofNat 108, Char.ofNat 111, Char.ofNat 119, Char.ofNat 47, Char.ofNat 119, Char.ofNat 111, Char.ofNat 114, Char.ofNat 107, Char.ofNat 102, Char.ofNat 108, Char.ofNat 111, Char.ofNat 119, Char.ofNat 108, Char.ofNat 97, Char.ofNat 119, Char.ofNat 50, Char.ofNat 54, Char.ofNat 46, Char.ofNat 65, Char.ofNat 112, Char.ofNat 112, Char.ofNat 108, Char.ofNat 121, Char.ofNat 69, Char.ofNat 118, Char.ofNat 101, Char.ofNat 110, Char.ofNat 116, Char.ofNat 115, Char.ofNat 32, Char.ofNat 119, Char.ofNat 111, Char.ofNat 114, Char.ofNat 107, Char.ofNat 102, Char.ofNat 108, Char.ofNat 111, Char.ofNat 119, Char.ofNat 47, Char.ofNat 119, Char.ofNat 111, Char.ofNat 114, Char.ofNat 107, Char.ofNat 102, Char.ofNat 108, Char.ofNat 111, Char.ofNat 119, Char.ofNat 108, Char.ofNat 97, Char.ofNat 119, Char.ofNat 50, Char.ofNat 54, Char.ofNat 46, Char.ofNat 65, Char.ofNat 112, Char.ofNat 112, Char.ofNat 108, Char.ofNat 121, Char.ofNat 68, Char.ofNat 111, Char.ofNat 110, Char.ofNat 101, Char.ofNat 32, Char.ofNat 119, Char.ofNat 111, Char.ofNat 114, Char.ofNat 107, Char.ofNat 102, Char.ofNat 108, Char.ofNat 111, Char.ofNat 119, Char.ofNat 47, Char.ofNat 119, Char.ofNat 111, Char.ofNat 114, Char.ofNat 107, Char.ofNat 102, Char.ofNat 108, Char.ofNat 111, Char.ofNat 119, Char.ofNat 108, Char.ofNat 97, Char.ofNat 119, Char.ofNat 50, Char.ofNat 54, Char.ofNat 46, Char.ofNat 65, Char.ofNat 112, Char.ofNat 112, Char.ofNat 108, Char.ofNat 121, Char.ofNat 83, Char.ofNat 112, Char.ofNat 108, Char.ofNat 105, Char.ofNat 116, Char.ofNat 32, Char.ofNat 119, Char.ofNat 111, Char.ofNat 114, Char.ofNat 107, Char.ofNat 102, Char.ofNat 108, Char.ofNat 111, Char.ofNat 119, Char.ofNat 47, Char.ofNat 119, Char.ofNat 111, Char.ofNat 114, Char.ofNat 107, Char.ofNat 102, Char.ofNat 108, Char.ofNat 111, Char.ofNat 119, Char.ofNat 108, Char.ofNat 97, Char.ofNat 119, Char.ofNat 50, Char.ofNat 54, Char.ofNat 46, Char.ofNat 65, Char.ofNat 112, Char.ofNat 112, Char.ofNat 108, Char.ofNat 121, Char.ofNat 70, Char.ofNat 111, Char.ofNat 108, Char.ofNat 108, Char.ofNat 111, Char.ofNat 119, Char.ofNat 115]
def Tryz.wds : List (List Char) := [[Char.ofNat 99, Char.ofNat 117, Char.ofNat 116], [Char.ofNat 97, Char.ofNat 116], [Char.ofNat 119, Char.ofNat 111, Char.ofNat 114, Char.ofNat 107, Char.ofNat 102, Char.ofNat 108, Char.ofNat 111, Char.ofNat 119, Char.ofNat 47, Char.ofNat 119, Char.ofNat 111, Char.ofNat 114, Char.ofNat 107, Char.ofNat 102, Char.ofNat 108, Char.ofNat 111, Char.ofNat 119, Char.ofNat 108, Char.ofNat 97, Char.ofNat 119, Char.ofNat 50, Char.ofNat 53, Char.ofNat 46, Char.ofNat 80, Char.ofNat 101, Char.ofNat 110, Char.ofNat 100, Char.ofNat 105, Char.ofNat 110, Char.ofNat 103, Char.ofNat 83, Char.ofNat 116, Char.ofNat 101, Char.ofNat 112, Char.ofNat 115], [Char.ofNat 119, Char.ofNat 111, Char.ofNat 114, Char.ofNat 107, Char.ofNat 102, Char.ofNat 108, Char.ofNat 111, Char.ofNat 119, Char.ofNat 47, Char.ofNat 119, Char.ofNat 111, Char.ofNat 114, Char.ofNat 107, Char.ofNat 102, Char.ofNat 108, Char.ofNat 111, Char.ofNat 119, Char.ofNat 108, Char.ofNat 97, Char.ofNat 119, Char.ofNat 50, Char.ofNat 53, Char.ofNat 46, Char.ofNat 80, Char.ofNat 101, Char.ofNat 110, Char.ofNat 100, Char.ofNat 105, Char.ofNat 110, Char.ofNat 103, Char.ofNat 79, Char.ofNat 114, Char.ofNat 100, Char.ofNat 101, Char.ofNat 114], [Char.ofNat 119, Char.ofNat 111, Char.ofNat 114, Char.ofNat 107, Char.ofNat 102, Char.ofNat 108, Char.ofNat 111, Char.ofNat 119, Char.ofNat 47, Char.ofNat 119, Char.ofNat 111, Char.ofNat 114, Char.ofNat 107, Char.ofNat 102, Char.ofNat 108, Char.ofNat 111, Char.ofNat 119, Char.ofNat 108, Char.ofNat 97, Char.ofNat 119, Char.ofNat 50, Char.ofNat 53, Char.ofNat 46, Char.ofNat 80, Char.ofNat 101, Char.ofNat 110, Char.ofNat 100, Char.ofNat 105, Char.ofNat 110, Char.ofNat 103, Char.ofNat 66, Char.ofNat 97, Char.ofNat 114, Char.ofNat 101], [Char.ofNat 119, Char.ofNat 111, Char.ofNat 114, Char.ofNat 107, Char.ofNat 102, Char.ofNat 108, Char.ofNat 111, Char.ofNat 119, Char.ofNat 47, Char.ofNat 119, Char.ofNat 111, Char.ofNat 114, Char.ofNat 107, Char.ofNat 102, Char.ofNat 108, Char.ofNat 111, Char.ofNat 119, Char.ofNat 108, Char.ofNat 97, Char.ofNat 119, Char.ofNat 50, Char.ofNat 53, Char.ofNat 46, Char.ofNat 80, Char.ofNat 101, Char.ofNat 110, Char.ofNat 100, Char.ofNat 105, Char.ofNat 110, Char.ofNat 103, Char.ofNat 70, Char.ofNat 105, Char.ofNat 110, Char.ofNat 100, Char.ofNat 115], [Char.ofNat 119, Char.ofNat 111, Char.ofNat 114, Char.ofNat 107, Char.ofNat 102, Char.ofNat 108, Char.ofNat 111, Char.ofNat 119, Char.ofNat 47, Char.ofNat 119, Char.ofNat 111, Char.ofNat 114, Char.ofNat 107, Char.ofNat 102, Char.ofNat 108, Char.ofNat 111, Char.ofNat 119, Char.ofNat 108, Char.ofNat 97, Char.ofNat 119, Char.ofNat 51, Char.ofNat 50, Char.ofNat 46, Char.ofNat 83, Char.ofNat 105, Char.ofNat 103, Char.ofNat 110, Char.ofNat 97, Char.ofNat 108, Char.ofNat 115, Char.ofNat 79, Char.ofNat 110, Char.ofNat 99, Char.ofNat 101], [Char.ofNat 119, Char.ofNat 111, Char.ofNat 114, Char.ofNat 107, Char.ofNat 102, Char.ofNat 108, Char.ofNat 111, Char.ofNat 119, Char.ofNat 47, Char.ofNat 119, Char.ofNat 111, Char.ofNat 114, Char.ofNat 107, Char.ofNat 102, Char.ofNat 108, Char.ofNat 111, Char.ofNat 119, Char.ofNat 108, Char.ofNat 97, Char.ofNat 119, Char.ofNat 51, Char.ofNat 50, Char.ofNat 46, Char.ofNat 83, Char.ofNat 105, Char.ofNat 103, Char.ofNat 110, Char.ofNat 97, Char.ofNat 108, Char.ofNat 115, Char.ofNat 79, Char.ofNat 114, Char.ofNat 100, Char.ofNat 101, Char.ofNat 114], [Char.ofNat 119, Char.ofNat 111, Char.ofNat 114, Char.ofNat 107, Char.ofNat 102, Char.ofNat 108, Char.ofNat 111, Char.ofNat 119, Char.ofNat 47, Char.ofNat 119, Char.ofNat 111, Char.ofNat 114, Char.ofNat 107, Char.ofNat 102, Char.ofNat 108, Char.ofNat 111, Char.ofNat 119, Char.ofNat 108, Char.ofNat 97, Char.ofNat 119, Char.ofNat 50, Char.ofNat 54, Char.ofNat 46, Char.ofNat 65, Char.ofNat 112, Char.ofNat 112, Char.ofNat 108, Char.ofNat 121, Char.ofNat 67, Char.ofNat 104, Char.ofNat 101, Char.ofNat 99, Char.ofNat 107], [Char.ofNat 119, Char.ofNat 111, Char.ofNat 114, Char.ofNat 107, Char.ofNat 102, Char.ofNat 108, Char.ofNat 111, Char.ofNat 119, Char.ofNat 47, Char.ofNat 119, Char.ofNat 111, Char.ofNat 114, Char.ofNat 107, Char.ofNat 102, Char.ofNat 108, Char.ofNat 111, Char.ofNat 119, Char.ofNat 108, Char.ofNat 97, Char.ofNat 119, Char.ofNat 50, Char.ofNat 54, Char.ofNat 46, Char.ofNat 65, Char.ofNat 112, Char.ofNat 112, Char.ofNat 108, Char.ofNat 121, Char.ofNat 69, Char.ofNat 118, Char.ofNat 101, Char.ofNat 110, Char.ofNat 116, Char.ofNat 115], [Char.ofNat 119, Char.ofNat 111, Char.ofNat 114, Char.ofNat 107, Char.ofNat 102, Char.ofNat 108, Char.ofNat 111, Char.ofNat 119, Char.ofNat 47, Char.ofNat 119, Char.ofNat 111, Char.ofNat 114, Char.ofNat 107, Char.ofNat 102, Char.ofNat 108, Char.ofNat 111, Char.ofNat 119, Char.ofNat 108, Char.ofNat 97, Char.ofNat 119, Char.ofNat 50, Char.ofNat 54, Char.ofNat 46, Char.ofNat 65, Char.ofNat 112, Char.ofNat 112, Char.ofNat 108, Char.ofNat 121, Char.ofNat 68, Char.ofNat 111, Char.ofNat 110, Char.ofNat 101], [Char.ofNat 119, Char.ofNat 111, Char.ofNat 114, Char.ofNat 107, Char.ofNat 102, Char.ofNat 108, Char.ofNat 111, Char.ofNat 119, Char.ofNat 47, Char.ofNat 119, Char.ofNat 111, Char.ofNat 114, Char.ofNat 107, Char.ofNat 102, Char.ofNat 108, Char.ofNat 111, Char.ofNat 119, Char.ofNat 108, Char.ofNat 97, Char.ofNat 119, Char.ofNat 50, Char.ofNat 54, Char.ofNat 46, Char.ofNat 65, Char.ofNat 112, Char.ofNat 112, Char.ofNat 108, Char.ofNat 121, Char.ofNat 83, Char.ofNat 112, Char.ofNat 108, Char.ofNat 105, Char.ofNat 116], [Char.ofNat 119, Char.ofNat 111, Char.ofNat 114, Char.ofNat 107, Char.ofNat 102, Char.ofNat 108, Char.ofNat 111, Char.ofNat 119, Char.ofNat 47, Char.ofNat 119, Char.ofNat 111, Char.ofNat 114, Char.ofNat 107, Char.ofNat 102, Char.ofNat 108, Char.ofNat 111, Char.ofNat 119, Char.ofNat 108, Char.ofNat 97, Char.ofNat 119, Char.ofNat 50, Char.ofNat 54, Char.ofNat 46, Char.ofNat 65, Char.ofNat 112, Char.ofNat 112, Char.ofNat 108, Char.ofNat 121, Char.ofNat 70, Char.ofNat 111, Char.ofNat 108, Char.ofNat 108, Char.ofNat 111, Char.ofNat 119, Char.ofNat 115]]
theorem Tryz.order : Tryz.prog.initOrder = String.ofList Tryz.signs := by kernel_rfl
theorem Tryz.chars : Tryz.prog.initOrder.toList = Tryz.signs := by rw [Tryz.order, String.toList_ofList]
theorem Tryz.words : behindMainWord (wordsSigns Tryz.signs) = Tryz.wds := by kernel_rfl
theorem Tryz.strip : stripLifts liftWords Tryz.wds = ([], Tryz.wds) := by kernel_rfl
theorem Tryz.cuts : (Tryz.wds.head? == some "cut".toList) = true := by kernel_rfl
theorem Tryz.make' (P : Program) (h : P.initOrder.toList = Tryz.signs) : P.make = some .cut := by
  unfold Program.make Program.headLifts
  rw [h, Tryz.words]
  kernel_rfl
theorem Tryz.fin' (P : Program) (h : P.initOrder.toList = Tryz.signs) : P.liftsFinal = false := by
  unfold Program.liftsFinal Program.headLifts
  rw [h, Tryz.words]
  kernel_rfl
theorem Tryz.may' (P : Program) (h : P.initOrder.toList = Tryz.signs) (h2 : P.laysLater = false) (h3 : P.bearsReflect = false) (h4 : P.doorFits [] = true) : P.mayEnter = true := by
  unfold Program.mayEnter
  rw [h, Tryz.words]
  obtain ⟨c, r, hw⟩ : ∃ c r, Tryz.wds = c :: r := ⟨_, _, rfl⟩
  have e := Tryz.strip
  have k := Tryz.cuts
  rw [hw] at e k ⊢
  simp only [e, k, h2, h3, h4]
  simp
theorem Tryz.make : Tryz.prog.make = some .cut := Tryz.make' _ Tryz.chars
theorem Tryz.fin : Tryz.prog.liftsFinal = false := Tryz.fin' _ Tryz.chars
theorem Tryz.may : Tryz.prog.mayEnter = true := Tryz.may' _ Tryz.chars (by kernel_rfl) (by kernel_rfl) (by kernel_rfl)
end Go.Proofs
end
section
set_option maxRecDepth 100000
namespace Go.Proofs.YtlgnflbekdldnaaGreatDoor
open Go Go.AV Go.RowKit
abbrev laidAll : List (String × DataW Unit) := [("math/bits.deBruijn32tab", Rows.laid_math_bits_deBruijn32tab), ("math/bits.deBruijn64tab", Rows.laid_math_bits_deBruijn64tab), ("internal/strconv.uint64pow10", Rows.laid_internal_strconv_uint64pow10), ("strconv.ErrRange", Rows.laid_strconv_ErrRange), ("strconv.ErrSyntax", Rows.laid_strconv_ErrSyntax)]
theorem gSyn : Tryz.prog.globalNamed "strconv.ErrSyntax" = some 0 := by kernel_rfl
theorem gRng : Tryz.prog.globalNamed "strconv.ErrRange" = some 1 := by kernel_rfl
theorem gPow : Tryz.prog.globalNamed "internal/strconv.uint64pow10" = some 2 := by kernel_rfl
theorem tSyn : (Tryz.prog.globals[0]?).map (·.type) = some 195 := by kernel_rfl
theorem tRng : (Tryz.prog.globals[1]?).map (·.type) = some 195 := by kernel_rfl
theorem tPow : (Tryz.prog.globals[2]?).map (·.type) = some 253 := by kernel_rfl
theorem c220 : Tryz.prog.cellsOf 220 = 1 := by kernel_rfl
theorem c253 : Tryz.prog.cellsOf 253 = 20 := by kernel_rfl
theorem c247 : Tryz.prog.cellsOf 247 = 1 := by kernel_rfl
theorem c9 : Tryz.prog.cellsOf 9 = 1 := by kernel_rfl
theorem star : "*errors.errorString" = "*" ++ "errors.errorString" := by rfl
theorem row245 : ∀ u, Tryz.prog.typeName? 3 u = some "*errors.errorString" → u = 245 := fun u h =>
  typeName_ptr_named (nm := "errors.errorString") (by rw [← star]; kernel_rfl) (by kernel_rfl) (by decide) u (by rw [← star]; exact h)
theorem var_lt {w : World} {nm : String} {g : Nat} {cs : Array Value} (hg : Tryz.prog.globalNamed nm = some g) (h : w.var? Tryz.prog nm = some cs) : g < w.heap.size := by
  rcases Nat.lt_or_ge g w.heap.size with h' | h'
  · exact h'
  · simp [World.var?, hg, Array.getElem?_eq_none h'] at h
/-- The walk's words for what is laid. -/
theorem laid_inv {W : World} (h : laidMetH Tryz.prog laidAll W) : Inv Tryz.prog W allOk := by
  rw [MakeChecks.laidMetH_plain _ _ _ (by kernel_rfl)] at h
  have h3 := h.tail.tail
  have hT : Go.Lib.TabIs Tryz.prog W "internal/strconv.uint64pow10" .u64 Go.Lib.pow10Tab := Go.Lib.tabIs_of_head gPow tPow Tryz.underlying253 Tryz.underlying220 c220 c253 h3
  obtain ⟨a0, _, hR, _⟩ := laid_sentinel h3.tail gRng tRng Tryz.underlying195 row245 Tryz.underlying245 Tryz.underlying247 rfl rfl Tryz.underlying9 c247 c9
  obtain ⟨a1, _, hS, _⟩ := laid_sentinel h3.tail.tail gSyn tSyn Tryz.underlying195 row245 Tryz.underlying245 Tryz.underlying247 rfl rfl Tryz.underlying9 c247 c9
  intro nm hnm g hg
  simp only [needs, List.mem_cons, List.not_mem_nil, or_false] at hnm
  rcases hnm with rfl | rfl | rfl
  · have := hg.symm.trans gPow
    exact ⟨trivial, var_lt hg hT, _, hT, rfl⟩
  · exact ⟨trivial, var_lt hg hS, _, hS, _, _, rfl⟩
  · exact ⟨trivial, var_lt hg hR, _, hR, _, _, rfl⟩
/-- The door's own heap meets the condition. -/
theorem door_met (os : Os) (args : Array Value) : laidMetH Tryz.prog laidAll ((World.doorLaid Tryz.prog 62 os).forCall (fun _ _ => 0) ⟨#[], args, []⟩).memory :=
  laidMetH_of_parts3 (fuel := 8) (laidMet_of_run' 8 (by kernel_rfl) (by kernel_rfl)) (by kernel_rfl) (by kernel_rfl)
theorem mains' (P : Program) (h : P.initOrder.toList = Tryz.signs) : P.mainIs = some (true, "869676bc7128f833b024f6b26f1dfe22299415916c71b51e393066324a17f590".toList) := by
  unfold Program.mainIs
  rw [h]
  kernel_rfl
theorem mains : Tryz.pinned.checked.prog.mainIs = some (true, "869676bc7128f833b024f6b26f1dfe22299415916c71b51e393066324a17f590".toList) := mains' _ Tryz.chars
theorem looking : true = Tryz.pinned.checked.prog.looks [] := by kernel_rfl
end Go.Proofs.YtlgnflbekdldnaaGreatDoor
end
