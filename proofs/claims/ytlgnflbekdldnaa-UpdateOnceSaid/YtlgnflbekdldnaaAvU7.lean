/- Layer 33: the laws as contracts. -/
import Derived.Test.YtlgnflbekdldnaaAvU6
set_option linter.unusedVariables false
namespace Go.Proofs
open Go Go.AV
theorem Try.k15 (l : List GAdmit) (hl : UP.lok l) (p : GPending) (hp : p.ok) (a : GAdmit) (ha : a.ok) : AV.Spec Try.prog 15 [.one (.sl (l.map GAdmit.cs)), .agg p.cs, .agg a.cs] [.one (.c (.bool true))] :=
  SpecG.toSpec (ds := [.one (.sl (l.map GAdmit.cs)), .agg p.cs, .agg a.cs]) (Try.m15.ok (l, p, a) true (UP.law15 l p a hl hp.2.2.2.2.2.2.2.2.2.2.2.2.2.2.1.2 ha))
theorem Try.k16 (h : List GEvent) (hh : ∀ x ∈ h, x.ok) (l : List GAdmit) (hl : UP.lok l) (k : ByteArray) : AV.Spec Try.prog 16 [.one (.sl (h.map GEvent.cs)), .one (.sl (l.map GAdmit.cs)), .one (.str k)] [.one (.c (.bool true))] :=
  SpecG.toSpec (ds := [.one (.sl (h.map GEvent.cs)), .one (.sl (l.map GAdmit.cs)), .one (.str k)]) (Try.m16.ok (h, l, k) true (UP.law16 h l k hh hl))
theorem Try.k17 (l : List GAdmit) (hl : UP.lok l) (cs : List GCommand) (rs : List ByteArray) : AV.Spec Try.prog 17 [.one (.sl (l.map GAdmit.cs)), .one (.sl (cs.map GCommand.cs)), .one (.sl (rs.map strC))] [.one (.c (.bool true))] :=
  SpecG.toSpec (ds := [.one (.sl (l.map GAdmit.cs)), .one (.sl (cs.map GCommand.cs)), .one (.sl (rs.map strC))]) (Try.m17.ok (l, cs, rs) true (UP.law17 l cs rs hl))
theorem Try.k18 (l : List GAdmit) (hl : UP.lok l) (a : GAdmit) (ha : a.ok) (b : Bool) : AV.Spec Try.prog 18 [.one (.sl (l.map GAdmit.cs)), .agg a.cs, .one (.bool b)] [.one (.c (.bool true))] :=
  SpecG.toSpec (ds := [.one (.sl (l.map GAdmit.cs)), .agg a.cs, .one (.bool b)]) (Try.m18.ok (l, a, b) true (UP.law18 l a b hl ha))
end Go.Proofs
