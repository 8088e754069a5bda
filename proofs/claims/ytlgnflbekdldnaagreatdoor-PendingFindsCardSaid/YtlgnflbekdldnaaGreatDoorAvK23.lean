/- Texts Av22. -/
import Derived.Test.YtlgnflbekdldnaaGreatDoorAvK22
set_option linter.unusedVariables false
set_option linter.unusedSimpArgs false
set_option linter.unusedSectionVars false
noncomputable section
namespace Go.AV
open Go.RowKit
section
variable {B : Nat → Prop} {nt : Nat} {w0 : Base} {w : World} {s s' : AS} {P : Program} {o : Oper} {ops : Array Oper} {r : List Oper} {K : AS → Prop} {Q : Exit → AS → Prop} [InvC P B w0]
variable {d : Option Tmp} {op : Op} {ty : TypeId} {pos : String} {af : Array Edge}
theorem run_nil (h : K s) : aRun P ops [] s K := h
theorem w64 (n : Int) (h : -9223372036854775808 ≤ n ∧ n ≤ 9223372036854775807) : IntKind.i64.wrap n = n := (wrap_iff .i64 n).2 h
theorem strEq_refl (z : ByteArray) : strEq z z = true := by simp [strEq]
def R.flatB : R → Bool
  | .c (.bool _) | .c (.int _ _) | .c (.str _) => true
  | _ => false
end
attribute [go_sem] List.length_set forall_eq List.nodup_cons List.mem_singleton Prod.mk.injEq List.length_take List.length_drop List.length_append false_and and_false false_or or_false Blk.arr.injEq Option.some.injEq C.sl.injEq List.size_toArray Nat.zero_add List.replicate_zero List.replicate_succ true_or or_true Sh.slice.injEq exists_eq' List.map_eq_nil_iff List.mem_map forall_exists_index and_imp forall_apply_eq_imp_iff₂ beq_self_eq_true bne_self_eq_false strEq_refl List.drop_succ_cons List.drop_zero List.take_succ_cons List.take_zero List.drop_nil List.take_nil List.all_cons List.all_nil List.forall_mem_cons List.toList_toArray Option.isSome_some Option.isSome_none List.length_cons List.length_nil List.length_map List.not_mem_nil List.nodup_nil false_imp_iff implies_true take_nil
attribute [go_sem_proc] reduceIte reduceCtorEq Nat.reduceEqDiff Nat.reduceAdd Nat.reduceMul Nat.reduceSub Nat.reduceLT Nat.reduceLeDiff Nat.reduceDiv Nat.reduceMod Nat.reduceSucc Int.reduceLE Int.reduceLT Int.reduceNeg Int.reduceAdd Int.reduceSub Int.reduceMul Int.reduceEq Int.reduceNe Int.reduceToNat
attribute [go_sem_proc ↓] reduceIte
attribute [go_sem] and_self List.getElem?_cons_zero List.getElem?_cons_succ Int.ofNat_lt Int.toNat_natCast
attribute [go_sem] List.getD_cons_zero List.getD_cons_succ Bool.true_and Bool.and_true Bool.false_and Bool.and_false Bool.true_or Bool.or_true Bool.false_or Bool.or_false Bool.not_not true_and and_true eq_self forall_const Option.map_some Option.map_none List.map_cons List.map_nil List.append_nil List.nil_append List.cons_append List.flatMap_cons List.flatMap_nil ne_eq not_false_eq_true not_true_eq_false decide_true decide_false Bool.not_true Bool.not_false Bool.false_eq_true Bool.true_eq_false if_true if_false
end Go.AV
end
