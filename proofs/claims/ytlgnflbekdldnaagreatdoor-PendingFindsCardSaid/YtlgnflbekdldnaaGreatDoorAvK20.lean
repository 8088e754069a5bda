/- Texts Av20. -/
import Derived.Eval
import Derived.Test.YtlgnflbekdldnaaGreatDoorAvK19
set_option linter.unusedVariables false
set_option linter.unusedSimpArgs false
set_option linter.unusedSectionVars false
noncomputable section
namespace Go.AV
open Go.RowKit
section
variable {B : Nat → Prop} {nt : Nat} {w0 : Base} {w : World} {s s' : AS} {a : Act} {gv : GV} {P : Program} {o : Oper} {ops : Array Oper} {r : List Oper} {K : AS → Prop} {Q : Exit → AS → Prop} [InvC P B w0]
variable {KO : Out → Prop} (d : Option Tmp) (ty : TypeId) (pos : String) (af : Array Edge) (g : Option (Nat × Bool))
end
end Go.AV
end
