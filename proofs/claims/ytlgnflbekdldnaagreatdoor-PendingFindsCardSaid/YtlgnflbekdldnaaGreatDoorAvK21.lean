/- Texts Av21. -/
import Derived.Test.YtlgnflbekdldnaaGreatDoorAvK20
set_option linter.unusedVariables false
set_option linter.unusedSimpArgs false
set_option linter.unusedSectionVars false
noncomputable section
namespace Go.AV
open Go.RowKit
structure Hide (p : Prop) : Prop where
  out : p
section
variable {B : Nat → Prop} {nt : Nat} {w0 : Base} {w : World} {s s' : AS} {P : Program} {o : Oper} {ops : Array Oper} {r : List Oper} {K : AS → Prop} {Q : Exit → AS → Prop} [InvC P B w0]
theorem take_nil (base : Nat) : s.take base [] = s := rfl
end
end Go.AV
end
