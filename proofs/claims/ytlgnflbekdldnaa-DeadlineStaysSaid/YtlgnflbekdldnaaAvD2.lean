/- The four timeouts of activities: what the functions of layer 35 compute. -/
import Derived.Test.YtlgnflbekdldnaaAv22
import Derived.Test.YtlgnflbekdldnaaAvTRa
set_option linter.unusedVariables false
set_option linter.unusedSimpArgs false
set_option maxRecDepth 3000
set_option maxHeartbeats 1000000
namespace Go.AV.DL
def sel (a : GAct) (k : Int) : Int × Int × Bool :=
  if k = 1 then (a.Opts.ToStart, a.Due, decide (a.State = 1))
  else if k = 2 then (a.Opts.ToClose, a.Started, decide (a.State = 2))
  else if k = 3 then (a.Opts.Total, a.Scheduled, decide (a.State = 1 ∨ a.State = 2))
  else if k = 4 then (a.Opts.Beat, if a.Started < a.LastBeat then a.LastBeat else a.Started, decide (a.State = 2))
  else (0, 0, false)
def ok (p : Int × Int × Bool) : Bool := p.2.2 && !decide (p.1 < 1) && !decide (1099511627776 < p.1) && !decide (p.2.1 < 0) && !decide (4611686018427387904 < p.2.1)
def due (a : GAct) (k : Int) : Int := if ok (sel a k) then IntKind.i64.wrap ((sel a k).2.1 + (sel a k).1) else 0
def has (a : GAct) (k : Int) : Bool := ok (sel a k)
def step (a : GAct) (p : Int × Int) (k : Int) : Int × Int := if has a k && (decide (p.2 = 0) || decide (due a k < p.1)) then (due a k, k) else p
def upto (a : GAct) : Nat → Int × Int
  | 0 => (0, 0)
  | n + 1 => step a (upto a n) (n + 1 : Nat)
def first (a : GAct) : Int × Int := upto a 4
def passed (a : GAct) (now : Int) : Int := if ¬ (first a).2 = 0 ∧ now < (first a).1 then 0 else (first a).2
def name (k : Int) : ByteArray := if k = 1 then ⟨#[116, 111, 83, 116, 97, 114, 116]⟩ else if k = 2 then ⟨#[116, 111, 67, 108, 111, 115, 101]⟩ else if k = 3 then ⟨#[116, 111, 116, 97, 108]⟩ else if k = 4 then ⟨#[98, 101, 97, 116]⟩ else ⟨#[]⟩
end Go.AV.DL
namespace Go.Proofs
open Go.AV Go.RowKit
attribute [local irreducible] AWp aRun dWalk aOut thenA inBlockA retOk retAVs AS.init Out.apply
theorem Try.k122 (k : Int) : AV.Spec Try.prog 122 [.one (.int .i64 k)] [.one (.c (.int .i64 (if k = 1 then 1 else 2)))] := by
  refine spec_of_body Try.func122 rfl rfl (by simp) (fun B w0 => ?_)
  repeat' (first
    | (refine seq_x fun M hM => ?_)
    | (refine awp_region (by kernel_rfl) ?_)
    | (refine awp_draw Try.follow (by kernel_rfl) (by kernel_rfl) ?_)
    | (refine run_o fun K hK => ?_; simp only [go_sem, reduceIte, ↓reduceIte, reduceCtorEq, Nat.reduceEqDiff, Nat.reduceAdd, Nat.reduceMul, Nat.reduceSub, Nat.reduceLT, Nat.reduceLeDiff, Nat.reduceDiv, Nat.reduceMod, Nat.reduceSucc, Int.reduceLE, Int.reduceLT, Int.reduceNeg, Int.reduceAdd, Int.reduceSub, Int.reduceMul, Int.reduceEq, Int.reduceNe, Int.reduceToNat, and_self, List.getElem?_cons_zero, List.getElem?_cons_succ, *])
    | (refine run_nil ?_; refine to_normal ?_)
    | (refine run_nil ?_)
    | (refine Hide.out hK _ ?_; clear hK K)
    | (refine Hide.out hM _ ?_; clear hM M)
    | (refine run_x rfl (by simp only [go_sem, reduceIte, ↓reduceIte, reduceCtorEq, Nat.reduceEqDiff, Nat.reduceAdd, Nat.reduceMul, Nat.reduceSub, Nat.reduceLT, Nat.reduceLeDiff, Nat.reduceDiv, Nat.reduceMod, Nat.reduceSucc, Int.reduceLE, Int.reduceLT, Int.reduceNeg, Int.reduceAdd, Int.reduceSub, Int.reduceMul, Int.reduceEq, Int.reduceNe, Int.reduceToNat, and_self, List.getElem?_cons_zero, List.getElem?_cons_succ, *]; rfl) ?_)
    | (refine gcase_t ?_)
    | (refine gcase_b (fun hb => ?_) (fun hb => ?_) <;> first | (cases hb) | (simp only [Bool.not_true, Bool.not_false, Bool.not_eq_true', Bool.not_eq_false', Bool.not_eq_true, Bool.not_eq_false, decide_eq_true_eq, decide_eq_false_iff_not] at hb) | skip)
    | (refine fun (K : Out → Prop) hK => ?_; simp only [go_sem, reduceIte, ↓reduceIte, reduceCtorEq, Nat.reduceEqDiff, Nat.reduceAdd, Nat.reduceMul, Nat.reduceSub, Nat.reduceLT, Nat.reduceLeDiff, Nat.reduceDiv, Nat.reduceMod, Nat.reduceSucc, Int.reduceLE, Int.reduceLT, Int.reduceNeg, Int.reduceAdd, Int.reduceSub, Int.reduceMul, Int.reduceEq, Int.reduceNe, Int.reduceToNat, and_self, List.getElem?_cons_zero, List.getElem?_cons_succ, *])
    | (refine awp_cond _ (by simp only [go_sem, reduceIte, ↓reduceIte, reduceCtorEq, Nat.reduceEqDiff, Nat.reduceAdd, Nat.reduceMul, Nat.reduceSub, Nat.reduceLT, Nat.reduceLeDiff, Nat.reduceDiv, Nat.reduceMod, Nat.reduceSucc, Int.reduceLE, Int.reduceLT, Int.reduceNeg, Int.reduceAdd, Int.reduceSub, Int.reduceMul, Int.reduceEq, Int.reduceNe, Int.reduceToNat, and_self, List.getElem?_cons_zero, List.getElem?_cons_succ, *]; rfl) (fun hb => ?_) (fun hb => ?_) <;> first | (cases hb) | (simp only [Bool.not_true, Bool.not_false, Bool.not_eq_true', Bool.not_eq_false', Bool.not_eq_true, Bool.not_eq_false, decide_eq_true_eq, decide_eq_false_iff_not] at hb) | skip)
    | (refine draw_o fun K hK => ?_; simp only [go_sem, reduceIte, ↓reduceIte, reduceCtorEq, Nat.reduceEqDiff, Nat.reduceAdd, Nat.reduceMul, Nat.reduceSub, Nat.reduceLT, Nat.reduceLeDiff, Nat.reduceDiv, Nat.reduceMod, Nat.reduceSucc, Int.reduceLE, Int.reduceLT, Int.reduceNeg, Int.reduceAdd, Int.reduceSub, Int.reduceMul, Int.reduceEq, Int.reduceNe, Int.reduceToNat, and_self, List.getElem?_cons_zero, List.getElem?_cons_succ, *])
    | (refine draw_nil ?_; refine to_normal ?_)
    | (refine draw_nil ?_)
    | (refine Hide.out hK _ (by first | exact dyn_v | exact dyn_m | exact dyn_b | exact dyn_s | exact dyn_a | exact dyn_c (Nat.le_of_ble_eq_true rfl)) ?_; clear hK K)
    | (refine draw_x rfl (by simp only [go_sem, reduceIte, ↓reduceIte, reduceCtorEq, Nat.reduceEqDiff, Nat.reduceAdd, Nat.reduceMul, Nat.reduceSub, Nat.reduceLT, Nat.reduceLeDiff, Nat.reduceDiv, Nat.reduceMod, Nat.reduceSucc, Int.reduceLE, Int.reduceLT, Int.reduceNeg, Int.reduceAdd, Int.reduceSub, Int.reduceMul, Int.reduceEq, Int.reduceNe, Int.reduceToNat, and_self, List.getElem?_cons_zero, List.getElem?_cons_succ, *]; rfl) ?_)
    | (refine awp_block ?_)
    | (refine awp_skip ?_)
    | (refine awp_exit ?_)
    | (refine awp_ret ?_)
    | (refine to_normal ?_)
    | (refine to_ret ?_)
    | (refine to_exit ?_)
    | (refine out_normal ?_)
    | (refine out_ret ?_)
    | (refine out_exit ?_)
    | (refine out_exit' rfl ?_)
    | (refine fin_ret ?_)
    | (refine fin_normal ?_)
    | (refine use_hide (by assumption) ?_))
  all_goals refine retOk_def (by simp [Try.f122]) (by simp only [Try.f122, go_sem, reduceIte, ↓reduceIte, reduceCtorEq, Nat.reduceEqDiff, Nat.reduceAdd, Nat.reduceMul, Nat.reduceSub, Nat.reduceLT, Nat.reduceLeDiff, Nat.reduceDiv, Nat.reduceMod, Nat.reduceSucc, Int.reduceLE, Int.reduceLT, Int.reduceNeg, Int.reduceAdd, Int.reduceSub, Int.reduceMul, Int.reduceEq, Int.reduceNe, Int.reduceToNat, and_self, List.getElem?_cons_zero, List.getElem?_cons_succ, *]; rfl) rfl ?_ ?_ ?_
  all_goals try simp only [go_sem, reduceIte, ↓reduceIte, reduceCtorEq, Nat.reduceEqDiff, Nat.reduceAdd, Nat.reduceMul, Nat.reduceSub, Nat.reduceLT, Nat.reduceLeDiff, Nat.reduceDiv, Nat.reduceMod, Nat.reduceSucc, Int.reduceLE, Int.reduceLT, Int.reduceNeg, Int.reduceAdd, Int.reduceSub, Int.reduceMul, Int.reduceEq, Int.reduceNe, Int.reduceToNat, and_self, List.getElem?_cons_zero, List.getElem?_cons_succ, *]
theorem Try.k30 (a : GAct) (k : Int) : AV.Spec Try.prog 30 [.agg a.cs, .one (.int .i64 k)] [.one (.c (.int .i64 (DL.due a k))), .one (.c (.bool (DL.has a k)))] := by
  refine spec_of_body Try.func30 rfl rfl (by simp) (fun B w0 => ?_)
  repeat' (first
    | (refine seq_x fun M hM => ?_)
    | (refine awp_region (by kernel_rfl) ?_)
    | (refine awp_draw Try.follow (by kernel_rfl) (by kernel_rfl) ?_)
    | (refine run_o fun K hK => ?_; simp only [go_sem, reduceIte, ↓reduceIte, reduceCtorEq, Nat.reduceEqDiff, Nat.reduceAdd, Nat.reduceMul, Nat.reduceSub, Nat.reduceLT, Nat.reduceLeDiff, Nat.reduceDiv, Nat.reduceMod, Nat.reduceSucc, Int.reduceLE, Int.reduceLT, Int.reduceNeg, Int.reduceAdd, Int.reduceSub, Int.reduceMul, Int.reduceEq, Int.reduceNe, Int.reduceToNat, and_self, List.getElem?_cons_zero, List.getElem?_cons_succ, *])
    | (refine run_nil ?_; refine to_normal ?_)
    | (refine run_nil ?_)
    | (refine Hide.out hK _ ?_; clear hK K)
    | (refine Hide.out hM _ ?_; clear hM M)
    | (refine run_x rfl (by simp only [go_sem, reduceIte, ↓reduceIte, reduceCtorEq, Nat.reduceEqDiff, Nat.reduceAdd, Nat.reduceMul, Nat.reduceSub, Nat.reduceLT, Nat.reduceLeDiff, Nat.reduceDiv, Nat.reduceMod, Nat.reduceSucc, Int.reduceLE, Int.reduceLT, Int.reduceNeg, Int.reduceAdd, Int.reduceSub, Int.reduceMul, Int.reduceEq, Int.reduceNe, Int.reduceToNat, and_self, List.getElem?_cons_zero, List.getElem?_cons_succ, *]; rfl) ?_)
    | (refine gcase_t ?_)
    | (refine gcase_b (fun hb => ?_) (fun hb => ?_) <;> first | (cases hb) | (simp only [Bool.not_true, Bool.not_false, Bool.not_eq_true', Bool.not_eq_false', Bool.not_eq_true, Bool.not_eq_false, decide_eq_true_eq, decide_eq_false_iff_not] at hb) | skip)
    | (refine fun (K : Out → Prop) hK => ?_; simp only [go_sem, reduceIte, ↓reduceIte, reduceCtorEq, Nat.reduceEqDiff, Nat.reduceAdd, Nat.reduceMul, Nat.reduceSub, Nat.reduceLT, Nat.reduceLeDiff, Nat.reduceDiv, Nat.reduceMod, Nat.reduceSucc, Int.reduceLE, Int.reduceLT, Int.reduceNeg, Int.reduceAdd, Int.reduceSub, Int.reduceMul, Int.reduceEq, Int.reduceNe, Int.reduceToNat, and_self, List.getElem?_cons_zero, List.getElem?_cons_succ, *])
    | (refine awp_cond _ (by simp only [go_sem, reduceIte, ↓reduceIte, reduceCtorEq, Nat.reduceEqDiff, Nat.reduceAdd, Nat.reduceMul, Nat.reduceSub, Nat.reduceLT, Nat.reduceLeDiff, Nat.reduceDiv, Nat.reduceMod, Nat.reduceSucc, Int.reduceLE, Int.reduceLT, Int.reduceNeg, Int.reduceAdd, Int.reduceSub, Int.reduceMul, Int.reduceEq, Int.reduceNe, Int.reduceToNat, and_self, List.getElem?_cons_zero, List.getElem?_cons_succ, *]; rfl) (fun hb => ?_) (fun hb => ?_) <;> first | (cases hb) | (simp only [Bool.not_true, Bool.not_false, Bool.not_eq_true', Bool.not_eq_false', Bool.not_eq_true, Bool.not_eq_false, decide_eq_true_eq, decide_eq_false_iff_not] at hb) | skip)
    | (refine draw_o fun K hK => ?_; simp only [go_sem, reduceIte, ↓reduceIte, reduceCtorEq, Nat.reduceEqDiff, Nat.reduceAdd, Nat.reduceMul, Nat.reduceSub, Nat.reduceLT, Nat.reduceLeDiff, Nat.reduceDiv, Nat.reduceMod, Nat.reduceSucc, Int.reduceLE, Int.reduceLT, Int.reduceNeg, Int.reduceAdd, Int.reduceSub, Int.reduceMul, Int.reduceEq, Int.reduceNe, Int.reduceToNat, and_self, List.getElem?_cons_zero, List.getElem?_cons_succ, *])
    | (refine draw_nil ?_; refine to_normal ?_)
    | (refine draw_nil ?_)
    | (refine Hide.out hK _ (by first | exact dyn_v | exact dyn_m | exact dyn_b | exact dyn_s | exact dyn_a | exact dyn_c (Nat.le_of_ble_eq_true rfl)) ?_; clear hK K)
    | (refine draw_x rfl (by simp only [go_sem, reduceIte, ↓reduceIte, reduceCtorEq, Nat.reduceEqDiff, Nat.reduceAdd, Nat.reduceMul, Nat.reduceSub, Nat.reduceLT, Nat.reduceLeDiff, Nat.reduceDiv, Nat.reduceMod, Nat.reduceSucc, Int.reduceLE, Int.reduceLT, Int.reduceNeg, Int.reduceAdd, Int.reduceSub, Int.reduceMul, Int.reduceEq, Int.reduceNe, Int.reduceToNat, and_self, List.getElem?_cons_zero, List.getElem?_cons_succ, *]; rfl) ?_)
    | (refine awp_block ?_)
    | (refine awp_skip ?_)
    | (refine awp_exit ?_)
    | (refine awp_ret ?_)
    | (refine to_normal ?_)
    | (refine to_ret ?_)
    | (refine to_exit ?_)
    | (refine out_normal ?_)
    | (refine out_ret ?_)
    | (refine out_exit ?_)
    | (refine out_exit' rfl ?_)
    | (refine fin_ret ?_)
    | (refine fin_normal ?_)
    | (refine use_hide (by assumption) ?_))
  all_goals refine retOk_def (by simp [Try.f30]) (by simp only [Try.f30, go_sem, reduceIte, ↓reduceIte, reduceCtorEq, Nat.reduceEqDiff, Nat.reduceAdd, Nat.reduceMul, Nat.reduceSub, Nat.reduceLT, Nat.reduceLeDiff, Nat.reduceDiv, Nat.reduceMod, Nat.reduceSucc, Int.reduceLE, Int.reduceLT, Int.reduceNeg, Int.reduceAdd, Int.reduceSub, Int.reduceMul, Int.reduceEq, Int.reduceNe, Int.reduceToNat, and_self, List.getElem?_cons_zero, List.getElem?_cons_succ, *]; rfl) rfl ?_ ?_ ?_
  all_goals try simp only [go_sem, reduceIte, ↓reduceIte, reduceCtorEq, Nat.reduceEqDiff, Nat.reduceAdd, Nat.reduceMul, Nat.reduceSub, Nat.reduceLT, Nat.reduceLeDiff, Nat.reduceDiv, Nat.reduceMod, Nat.reduceSucc, Int.reduceLE, Int.reduceLT, Int.reduceNeg, Int.reduceAdd, Int.reduceSub, Int.reduceMul, Int.reduceEq, Int.reduceNe, Int.reduceToNat, and_self, List.getElem?_cons_zero, List.getElem?_cons_succ, *]
  all_goals try clear hM M
  all_goals simp [DL.due, DL.has, DL.ok, DL.sel, *]
theorem Try.k31 (a : GAct) (k : Int) : AV.Spec Try.prog 31 [.agg a.cs, .one (.int .i64 k)] [.one (.c (.int .i64 (DL.due a k))), .one (.c (.bool (DL.has a k)))] := by
  refine spec_of_body Try.func31 rfl rfl (by simp) (fun B w0 => ?_)
  repeat' (first
    | (refine seq_x fun M hM => ?_)
    | (refine awp_region (by kernel_rfl) ?_)
    | (refine awp_draw Try.follow (by kernel_rfl) (by kernel_rfl) ?_)
    | (refine run_o fun K hK => ?_; simp only [go_sem, reduceIte, ↓reduceIte, reduceCtorEq, Nat.reduceEqDiff, Nat.reduceAdd, Nat.reduceMul, Nat.reduceSub, Nat.reduceLT, Nat.reduceLeDiff, Nat.reduceDiv, Nat.reduceMod, Nat.reduceSucc, Int.reduceLE, Int.reduceLT, Int.reduceNeg, Int.reduceAdd, Int.reduceSub, Int.reduceMul, Int.reduceEq, Int.reduceNe, Int.reduceToNat, and_self, List.getElem?_cons_zero, List.getElem?_cons_succ, *])
    | (refine run_nil ?_; refine to_normal ?_)
    | (refine run_nil ?_)
    | (refine Hide.out hK _ ?_; clear hK K)
    | (refine Hide.out hM _ ?_; clear hM M)
    | (refine run_x rfl (by simp only [go_sem, reduceIte, ↓reduceIte, reduceCtorEq, Nat.reduceEqDiff, Nat.reduceAdd, Nat.reduceMul, Nat.reduceSub, Nat.reduceLT, Nat.reduceLeDiff, Nat.reduceDiv, Nat.reduceMod, Nat.reduceSucc, Int.reduceLE, Int.reduceLT, Int.reduceNeg, Int.reduceAdd, Int.reduceSub, Int.reduceMul, Int.reduceEq, Int.reduceNe, Int.reduceToNat, and_self, List.getElem?_cons_zero, List.getElem?_cons_succ, *]; rfl) ?_)
    | (refine gcase_t ?_)
    | (refine gcase_b (fun hb => ?_) (fun hb => ?_) <;> first | (cases hb) | (simp only [Bool.not_true, Bool.not_false, Bool.not_eq_true', Bool.not_eq_false', Bool.not_eq_true, Bool.not_eq_false, decide_eq_true_eq, decide_eq_false_iff_not] at hb) | skip)
    | (refine fun (K : Out → Prop) hK => ?_; simp only [go_sem, reduceIte, ↓reduceIte, reduceCtorEq, Nat.reduceEqDiff, Nat.reduceAdd, Nat.reduceMul, Nat.reduceSub, Nat.reduceLT, Nat.reduceLeDiff, Nat.reduceDiv, Nat.reduceMod, Nat.reduceSucc, Int.reduceLE, Int.reduceLT, Int.reduceNeg, Int.reduceAdd, Int.reduceSub, Int.reduceMul, Int.reduceEq, Int.reduceNe, Int.reduceToNat, and_self, List.getElem?_cons_zero, List.getElem?_cons_succ, *])
    | (refine awp_cond _ (by simp only [go_sem, reduceIte, ↓reduceIte, reduceCtorEq, Nat.reduceEqDiff, Nat.reduceAdd, Nat.reduceMul, Nat.reduceSub, Nat.reduceLT, Nat.reduceLeDiff, Nat.reduceDiv, Nat.reduceMod, Nat.reduceSucc, Int.reduceLE, Int.reduceLT, Int.reduceNeg, Int.reduceAdd, Int.reduceSub, Int.reduceMul, Int.reduceEq, Int.reduceNe, Int.reduceToNat, and_self, List.getElem?_cons_zero, List.getElem?_cons_succ, *]; rfl) (fun hb => ?_) (fun hb => ?_) <;> first | (cases hb) | (simp only [Bool.not_true, Bool.not_false, Bool.not_eq_true', Bool.not_eq_false', Bool.not_eq_true, Bool.not_eq_false, decide_eq_true_eq, decide_eq_false_iff_not] at hb) | skip)
    | (refine draw_o fun K hK => ?_; simp only [go_sem, reduceIte, ↓reduceIte, reduceCtorEq, Nat.reduceEqDiff, Nat.reduceAdd, Nat.reduceMul, Nat.reduceSub, Nat.reduceLT, Nat.reduceLeDiff, Nat.reduceDiv, Nat.reduceMod, Nat.reduceSucc, Int.reduceLE, Int.reduceLT, Int.reduceNeg, Int.reduceAdd, Int.reduceSub, Int.reduceMul, Int.reduceEq, Int.reduceNe, Int.reduceToNat, and_self, List.getElem?_cons_zero, List.getElem?_cons_succ, *])
    | (refine draw_nil ?_; refine to_normal ?_)
    | (refine draw_nil ?_)
    | (refine Hide.out hK _ (by first | exact dyn_v | exact dyn_m | exact dyn_b | exact dyn_s | exact dyn_a | exact dyn_c (Nat.le_of_ble_eq_true rfl)) ?_; clear hK K)
    | (refine draw_x rfl (by simp only [go_sem, reduceIte, ↓reduceIte, reduceCtorEq, Nat.reduceEqDiff, Nat.reduceAdd, Nat.reduceMul, Nat.reduceSub, Nat.reduceLT, Nat.reduceLeDiff, Nat.reduceDiv, Nat.reduceMod, Nat.reduceSucc, Int.reduceLE, Int.reduceLT, Int.reduceNeg, Int.reduceAdd, Int.reduceSub, Int.reduceMul, Int.reduceEq, Int.reduceNe, Int.reduceToNat, and_self, List.getElem?_cons_zero, List.getElem?_cons_succ, *]; rfl) ?_)
    | (refine ⟨_, Try.k122 _, [], .inl rfl, ?_⟩; simp only [go_sem, reduceIte, ↓reduceIte, reduceCtorEq, Nat.reduceEqDiff, Nat.reduceAdd, Nat.reduceMul, Nat.reduceSub, Nat.reduceLT, Nat.reduceLeDiff, Nat.reduceDiv, Nat.reduceMod, Nat.reduceSucc, Int.reduceLE, Int.reduceLT, Int.reduceNeg, Int.reduceAdd, Int.reduceSub, Int.reduceMul, Int.reduceEq, Int.reduceNe, Int.reduceToNat, and_self, List.getElem?_cons_zero, List.getElem?_cons_succ, *])
    | (refine ⟨_, Try.k122 _, [], .inr ⟨rfl, by simp [R.flat, C.flat]⟩, ?_⟩; simp only [go_sem, reduceIte, ↓reduceIte, reduceCtorEq, Nat.reduceEqDiff, Nat.reduceAdd, Nat.reduceMul, Nat.reduceSub, Nat.reduceLT, Nat.reduceLeDiff, Nat.reduceDiv, Nat.reduceMod, Nat.reduceSucc, Int.reduceLE, Int.reduceLT, Int.reduceNeg, Int.reduceAdd, Int.reduceSub, Int.reduceMul, Int.reduceEq, Int.reduceNe, Int.reduceToNat, and_self, List.getElem?_cons_zero, List.getElem?_cons_succ, *])
    | (refine ⟨_, Try.k122 _, _, .inl rfl, ?_⟩; simp only [go_sem, reduceIte, ↓reduceIte, reduceCtorEq, Nat.reduceEqDiff, Nat.reduceAdd, Nat.reduceMul, Nat.reduceSub, Nat.reduceLT, Nat.reduceLeDiff, Nat.reduceDiv, Nat.reduceMod, Nat.reduceSucc, Int.reduceLE, Int.reduceLT, Int.reduceNeg, Int.reduceAdd, Int.reduceSub, Int.reduceMul, Int.reduceEq, Int.reduceNe, Int.reduceToNat, and_self, List.getElem?_cons_zero, List.getElem?_cons_succ, *])
    | (refine awp_block ?_)
    | (refine awp_skip ?_)
    | (refine awp_exit ?_)
    | (refine awp_ret ?_)
    | (refine to_normal ?_)
    | (refine to_ret ?_)
    | (refine to_exit ?_)
    | (refine out_normal ?_)
    | (refine out_ret ?_)
    | (refine out_exit ?_)
    | (refine out_exit' rfl ?_)
    | (refine fin_ret ?_)
    | (refine fin_normal ?_)
    | (refine use_hide (by assumption) ?_))
  all_goals refine retOk_def (by simp [Try.f31]) (by simp only [Try.f31, go_sem, reduceIte, ↓reduceIte, reduceCtorEq, Nat.reduceEqDiff, Nat.reduceAdd, Nat.reduceMul, Nat.reduceSub, Nat.reduceLT, Nat.reduceLeDiff, Nat.reduceDiv, Nat.reduceMod, Nat.reduceSucc, Int.reduceLE, Int.reduceLT, Int.reduceNeg, Int.reduceAdd, Int.reduceSub, Int.reduceMul, Int.reduceEq, Int.reduceNe, Int.reduceToNat, and_self, List.getElem?_cons_zero, List.getElem?_cons_succ, *]; rfl) rfl ?_ ?_ ?_
  all_goals try simp only [go_sem, reduceIte, ↓reduceIte, reduceCtorEq, Nat.reduceEqDiff, Nat.reduceAdd, Nat.reduceMul, Nat.reduceSub, Nat.reduceLT, Nat.reduceLeDiff, Nat.reduceDiv, Nat.reduceMod, Nat.reduceSucc, Int.reduceLE, Int.reduceLT, Int.reduceNeg, Int.reduceAdd, Int.reduceSub, Int.reduceMul, Int.reduceEq, Int.reduceNe, Int.reduceToNat, and_self, List.getElem?_cons_zero, List.getElem?_cons_succ, *]
  all_goals try clear hM M
  all_goals simp [DL.due, DL.has, DL.ok, DL.sel, *]
end Go.Proofs
