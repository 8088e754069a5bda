/- The four timeouts of activities: what the functions of layer 35 compute. -/
import Derived.Test.YtlgnflbekdldnaaAv22
import Derived.Test.YtlgnflbekdldnaaAvTRa
import Derived.Test.YtlgnflbekdldnaaAvD3
set_option linter.unusedVariables false
set_option linter.unusedSimpArgs false
set_option maxRecDepth 3000
set_option maxHeartbeats 1000000
namespace Go.Proofs
open Go.AV Go.RowKit
attribute [local irreducible] AWp aRun dWalk aOut thenA inBlockA retOk retAVs AS.init Out.apply
theorem Try.k37 (k : Int) : AV.Spec Try.prog 37 [.one (.int .i64 k)] [.one (.c (.str (DL.name k)))] := by
  by_cases h0 : k < 0 ∨ 5 ≤ k
  · have e : DL.name k = ⟨#[]⟩ := by
      unfold DL.name
      rw [if_neg (by omega), if_neg (by omega), if_neg (by omega), if_neg (by omega)]
    rw [e]
    refine spec_of_body Try.func37 rfl rfl (by simp) (fun B w0 => ?_)
    repeat' (first
      | (refine seq_x fun M hM => ?_)
      | (refine awp_region (by kernel_rfl) ?_)
      | (refine awp_draw Try.follow (by kernel_rfl) (by kernel_rfl) ?_)
      | (refine run_o fun K hK => ?_; simp only [go_sem, reduceIte, ↓reduceIte, reduceCtorEq, Nat.reduceEqDiff, Nat.reduceAdd, Nat.reduceMul, Nat.reduceSub, Nat.reduceLT, Nat.reduceLeDiff, Nat.reduceDiv, Nat.reduceMod, Nat.reduceSucc, Int.reduceLE, Int.reduceLT, Int.reduceNeg, Int.reduceAdd, Int.reduceSub, Int.reduceMul, Int.reduceEq, Int.reduceNe, Int.reduceToNat, and_self, List.getElem?_cons_zero, List.getElem?_cons_succ, *])
      | (refine run_nil ?_; refine to_normal ?_)
      | (refine run_nil ?_)
      | (refine Hide.out hK _ ?_; clear hK K)
      | (refine Hide.out hM _ ?_; clear hM M)
      | (refine run_x rfl (by simp only [go_sem, reduceIte, ↓reduceIte, reduceCtorEq, Nat.reduceEqDiff, Nat.reduceAdd, Nat.reduceMul, Nat.reduceSub, Nat.reduceLT, Nat.reduceLeDiff, Nat.reduceDiv, Nat.reduceMod, Nat.reduceSucc, Int.reduceLE, Int.reduceLT, Int.reduceNeg, Int.reduceAdd, Int.reduceSub, Int.reduceMul, Int.reduceEq, Int.reduceNe, Int.reduceToNat, and_self, List.getElem?_cons_zero, List.getElem?_cons_succ, *]; rfl) ?_)
      | (refine gcase_t ?_)
      | (refine gcase_b (fun hb => ?_) (fun hb => ?_) <;> first | (cases hb) | (simp only [Bool.not_true, Bool.not_false, Bool.not_eq_true', Bool.not_eq_false', Bool.not_eq_true, Bool.not_eq_false, decide_eq_true_eq, decide_eq_false_iff_not] at hb) | skip)
      | (refine fun (K : Out → Prop) hK => ?_; simp only [go_sem, reduceIte, ↓reduceIte, reduceCtorEq, Nat.reduceEqDiff, Nat.reduceAdd, Nat.reduceMul, Nat.reduceSub, Nat.reduceLT, Nat.reduceLeDiff, Nat.reduceDiv, Nat.reduceMod, Nat.reduceSucc, Int.reduceLE, Int.reduceLT, Int.reduceNeg, Int.reduceAdd, Int.reduceSub, Int.reduceMul, Int.reduceEq, Int.reduceNe, Int.reduceToNat, and_self, List.getElem?_cons_zero, List.getElem?_cons_succ, *])
      | (refine awp_cond _ (by simp only [go_sem, reduceIte, ↓reduceIte, reduceCtorEq, Nat.reduceEqDiff, Nat.reduceAdd, Nat.reduceMul, Nat.reduceSub, Nat.reduceLT, Nat.reduceLeDiff, Nat.reduceDiv, Nat.reduceMod, Nat.reduceSucc, Int.reduceLE, Int.reduceLT, Int.reduceNeg, Int.reduceAdd, Int.reduceSub, Int.reduceMul, Int.reduceEq, Int.reduceNe, Int.reduceToNat, and_self, List.getElem?_cons_zero, List.getElem?_cons_succ, *]; rfl) (fun hb => ?_) (fun hb => ?_) <;> first | (cases hb) | (simp only [Bool.not_true, Bool.not_false, Bool.not_eq_true', Bool.not_eq_false', Bool.not_eq_true, Bool.not_eq_false, decide_eq_true_eq, decide_eq_false_iff_not] at hb) | skip)
      | (refine draw_o fun K hK => ?_; simp only [go_sem, reduceIte, ↓reduceIte, reduceCtorEq, Nat.reduceEqDiff, Nat.reduceAdd, Nat.reduceMul, Nat.reduceSub, Nat.reduceLT, Nat.reduceLeDiff, Nat.reduceDiv, Nat.reduceMod, Nat.reduceSucc, Int.reduceLE, Int.reduceLT, Int.reduceNeg, Int.reduceAdd, Int.reduceSub, Int.reduceMul, Int.reduceEq, Int.reduceNe, Int.reduceToNat, and_self, List.getElem?_cons_zero, List.getElem?_cons_succ, *])
      | (refine draw_nil ?_; refine to_normal ?_)
      | (refine draw_nil ?_)
      | (refine Hide.out hK _ (by first | exact dyn_v | exact dyn_m | exact dyn_b | exact dyn_s | exact dyn_a | exact dyn_c (Nat.le_of_ble_eq_true rfl)) ?_; clear hK K)
      | (refine draw_x rfl (by simp only [go_sem, reduceIte, ↓reduceIte, reduceCtorEq, Nat.reduceEqDiff, Nat.reduceAdd, Nat.reduceMul, Nat.reduceSub, Nat.reduceLT, Nat.reduceLeDiff, Nat.reduceDiv, Nat.reduceMod, Nat.reduceSucc, Int.reduceLE, Int.reduceLT, Int.reduceNeg, Int.reduceAdd, Int.reduceSub, Int.reduceMul, Int.reduceEq, Int.reduceNe, Int.reduceToNat, and_self, List.getElem?_cons_zero, List.getElem?_cons_succ, *]; rfl) ?_)
      | (refine awp_block ?_)
      | (refine awp_skip ?_)
      | (refine awp_exit ?_)
      | (refine awp_ret ?_)
      | (refine to_normal ?_)
      | (refine to_ret ?_)
      | (refine to_exit ?_)
      | (refine out_normal ?_)
      | (refine out_ret ?_)
      | (refine out_exit ?_)
      | (refine out_exit' rfl ?_)
      | (refine fin_ret ?_)
      | (refine fin_normal ?_)
      | (refine use_hide (by assumption) ?_)
      | (refine And.intro (by omega) ?_)
      | fail)
    all_goals first | omega | (refine retOk_def (by simp [Try.f37]) (by simp only [Try.f37, go_sem, reduceIte, ↓reduceIte, reduceCtorEq, Nat.reduceEqDiff, Nat.reduceAdd, Nat.reduceMul, Nat.reduceSub, Nat.reduceLT, Nat.reduceLeDiff, Nat.reduceDiv, Nat.reduceMod, Nat.reduceSucc, Int.reduceLE, Int.reduceLT, Int.reduceNeg, Int.reduceAdd, Int.reduceSub, Int.reduceMul, Int.reduceEq, Int.reduceNe, Int.reduceToNat, and_self, List.getElem?_cons_zero, List.getElem?_cons_succ, *]; rfl) rfl ?_ ?_ ?_)
    all_goals simp only [go_sem, reduceIte, ↓reduceIte, reduceCtorEq, Nat.reduceEqDiff, Nat.reduceAdd, Nat.reduceMul, Nat.reduceSub, Nat.reduceLT, Nat.reduceLeDiff, Nat.reduceDiv, Nat.reduceMod, Nat.reduceSucc, Int.reduceLE, Int.reduceLT, Int.reduceNeg, Int.reduceAdd, Int.reduceSub, Int.reduceMul, Int.reduceEq, Int.reduceNe, Int.reduceToNat, and_self, List.getElem?_cons_zero, List.getElem?_cons_succ, *]
  · have h1 : k = 0 ∨ k = 1 ∨ k = 2 ∨ k = 3 ∨ k = 4 := by omega
    clear h0
    rcases h1 with rfl | rfl | rfl | rfl | rfl
    all_goals refine spec_of_body Try.func37 rfl rfl (by simp) (fun B w0 => ?_)
    repeat' (first
      | (refine seq_x fun M hM => ?_)
      | (refine awp_region (by kernel_rfl) ?_)
      | (refine awp_draw Try.follow (by kernel_rfl) (by kernel_rfl) ?_)
      | (refine run_o fun K hK => ?_; simp only [go_sem, reduceIte, ↓reduceIte, reduceCtorEq, Nat.reduceEqDiff, Nat.reduceAdd, Nat.reduceMul, Nat.reduceSub, Nat.reduceLT, Nat.reduceLeDiff, Nat.reduceDiv, Nat.reduceMod, Nat.reduceSucc, Int.reduceLE, Int.reduceLT, Int.reduceNeg, Int.reduceAdd, Int.reduceSub, Int.reduceMul, Int.reduceEq, Int.reduceNe, Int.reduceToNat, and_self, List.getElem?_cons_zero, List.getElem?_cons_succ, *])
      | (refine run_nil ?_; refine to_normal ?_)
      | (refine run_nil ?_)
      | (refine Hide.out hK _ ?_; clear hK K)
      | (refine Hide.out hM _ ?_; clear hM M)
      | (refine run_x rfl (by simp only [go_sem, reduceIte, ↓reduceIte, reduceCtorEq, Nat.reduceEqDiff, Nat.reduceAdd, Nat.reduceMul, Nat.reduceSub, Nat.reduceLT, Nat.reduceLeDiff, Nat.reduceDiv, Nat.reduceMod, Nat.reduceSucc, Int.reduceLE, Int.reduceLT, Int.reduceNeg, Int.reduceAdd, Int.reduceSub, Int.reduceMul, Int.reduceEq, Int.reduceNe, Int.reduceToNat, and_self, List.getElem?_cons_zero, List.getElem?_cons_succ, *]; rfl) ?_)
      | (refine gcase_t ?_)
      | (refine gcase_b (fun hb => ?_) (fun hb => ?_) <;> first | (cases hb) | (simp only [Bool.not_true, Bool.not_false, Bool.not_eq_true', Bool.not_eq_false', Bool.not_eq_true, Bool.not_eq_false, decide_eq_true_eq, decide_eq_false_iff_not] at hb) | skip)
      | (refine fun (K : Out → Prop) hK => ?_; simp only [go_sem, reduceIte, ↓reduceIte, reduceCtorEq, Nat.reduceEqDiff, Nat.reduceAdd, Nat.reduceMul, Nat.reduceSub, Nat.reduceLT, Nat.reduceLeDiff, Nat.reduceDiv, Nat.reduceMod, Nat.reduceSucc, Int.reduceLE, Int.reduceLT, Int.reduceNeg, Int.reduceAdd, Int.reduceSub, Int.reduceMul, Int.reduceEq, Int.reduceNe, Int.reduceToNat, and_self, List.getElem?_cons_zero, List.getElem?_cons_succ, *])
      | (refine awp_cond _ (by simp only [go_sem, reduceIte, ↓reduceIte, reduceCtorEq, Nat.reduceEqDiff, Nat.reduceAdd, Nat.reduceMul, Nat.reduceSub, Nat.reduceLT, Nat.reduceLeDiff, Nat.reduceDiv, Nat.reduceMod, Nat.reduceSucc, Int.reduceLE, Int.reduceLT, Int.reduceNeg, Int.reduceAdd, Int.reduceSub, Int.reduceMul, Int.reduceEq, Int.reduceNe, Int.reduceToNat, and_self, List.getElem?_cons_zero, List.getElem?_cons_succ, *]; rfl) (fun hb => ?_) (fun hb => ?_) <;> first | (cases hb) | (simp only [Bool.not_true, Bool.not_false, Bool.not_eq_true', Bool.not_eq_false', Bool.not_eq_true, Bool.not_eq_false, decide_eq_true_eq, decide_eq_false_iff_not] at hb) | skip)
      | (refine draw_o fun K hK => ?_; simp only [go_sem, reduceIte, ↓reduceIte, reduceCtorEq, Nat.reduceEqDiff, Nat.reduceAdd, Nat.reduceMul, Nat.reduceSub, Nat.reduceLT, Nat.reduceLeDiff, Nat.reduceDiv, Nat.reduceMod, Nat.reduceSucc, Int.reduceLE, Int.reduceLT, Int.reduceNeg, Int.reduceAdd, Int.reduceSub, Int.reduceMul, Int.reduceEq, Int.reduceNe, Int.reduceToNat, and_self, List.getElem?_cons_zero, List.getElem?_cons_succ, *])
      | (refine draw_nil ?_; refine to_normal ?_)
      | (refine draw_nil ?_)
      | (refine Hide.out hK _ (by first | exact dyn_v | exact dyn_m | exact dyn_b | exact dyn_s | exact dyn_a | exact dyn_c (Nat.le_of_ble_eq_true rfl)) ?_; clear hK K)
      | (refine draw_x rfl (by simp only [go_sem, reduceIte, ↓reduceIte, reduceCtorEq, Nat.reduceEqDiff, Nat.reduceAdd, Nat.reduceMul, Nat.reduceSub, Nat.reduceLT, Nat.reduceLeDiff, Nat.reduceDiv, Nat.reduceMod, Nat.reduceSucc, Int.reduceLE, Int.reduceLT, Int.reduceNeg, Int.reduceAdd, Int.reduceSub, Int.reduceMul, Int.reduceEq, Int.reduceNe, Int.reduceToNat, and_self, List.getElem?_cons_zero, List.getElem?_cons_succ, *]; rfl) ?_)
      | (refine awp_block ?_)
      | (refine awp_skip ?_)
      | (refine awp_exit ?_)
      | (refine awp_ret ?_)
      | (refine to_normal ?_)
      | (refine to_ret ?_)
      | (refine to_exit ?_)
      | (refine out_normal ?_)
      | (refine out_ret ?_)
      | (refine out_exit ?_)
      | (refine out_exit' rfl ?_)
      | (refine fin_ret ?_)
      | (refine fin_normal ?_)
      | (refine use_hide (by assumption) ?_)
      | (refine And.intro (by omega) ?_)
      | fail)
    all_goals first | omega | (refine retOk_def (by simp [Try.f37]) (by simp only [Try.f37, go_sem, reduceIte, ↓reduceIte, reduceCtorEq, Nat.reduceEqDiff, Nat.reduceAdd, Nat.reduceMul, Nat.reduceSub, Nat.reduceLT, Nat.reduceLeDiff, Nat.reduceDiv, Nat.reduceMod, Nat.reduceSucc, Int.reduceLE, Int.reduceLT, Int.reduceNeg, Int.reduceAdd, Int.reduceSub, Int.reduceMul, Int.reduceEq, Int.reduceNe, Int.reduceToNat, and_self, List.getElem?_cons_zero, List.getElem?_cons_succ, *]; rfl) rfl ?_ ?_ ?_)
    all_goals try simp only [go_sem, reduceIte, ↓reduceIte, reduceCtorEq, Nat.reduceEqDiff, Nat.reduceAdd, Nat.reduceMul, Nat.reduceSub, Nat.reduceLT, Nat.reduceLeDiff, Nat.reduceDiv, Nat.reduceMod, Nat.reduceSucc, Int.reduceLE, Int.reduceLT, Int.reduceNeg, Int.reduceAdd, Int.reduceSub, Int.reduceMul, Int.reduceEq, Int.reduceNe, Int.reduceToNat, and_self, List.getElem?_cons_zero, List.getElem?_cons_succ, *]
    all_goals simp [DL.name]
def DL.a1 : GAct := ⟨0, 0, ⟨#[]⟩, .mk 0 0 ⟨#[]⟩ [] [], ⟨⟨#[]⟩, 5, 0, 20, 0, 0, 0, 0, 0, []⟩, 1, 0, 0, 10, 0, 0, 0, false, .mk 0 0 ⟨#[]⟩ [] [], ⟨#[]⟩⟩
def DL.a2 : GAct := ⟨0, 0, ⟨#[]⟩, .mk 0 0 ⟨#[]⟩ [] [], ⟨⟨#[]⟩, 0, 7, 0, 4, 0, 0, 0, 0, []⟩, 2, 0, 0, 0, 3, 6, 0, false, .mk 0 0 ⟨#[]⟩ [] [], ⟨#[]⟩⟩
theorem Try.k32 : AV.Spec Try.prog 32 [] [.one (.c (.bool true))] := by
  have c1 := Try.k33 DL.a1
  have e1 : DL.first DL.a1 = (15, 1) := by decide +kernel
  have c2 := Try.k33 DL.a2
  have e2 : DL.first DL.a2 = (10, 2) := by decide +kernel
  have c3 := Try.k35 DL.a1 14
  have e3 : DL.passed DL.a1 14 = 0 := by decide +kernel
  have c4 := Try.k35 DL.a1 15
  have e4 : DL.passed DL.a1 15 = 1 := by decide +kernel
  have c5 := Try.k37 4
  have e5 : DL.name 4 = ⟨#[98, 101, 97, 116]⟩ := by decide +kernel
  rw [e1] at c1
  rw [e2] at c2
  rw [e3] at c3
  rw [e4] at c4
  rw [e5] at c5
  clear e1 e2 e3 e4 e5
  refine spec_of_body Try.func32 rfl rfl (by simp) (fun B w0 => ?_)
  repeat' (first
    | (refine seq_x fun M hM => ?_)
    | (refine awp_region (by kernel_rfl) ?_)
    | (refine awp_draw Try.follow (by kernel_rfl) (by kernel_rfl) ?_)
    | (refine run_o fun K hK => ?_; simp only [go_sem, reduceIte, ↓reduceIte, reduceCtorEq, Nat.reduceEqDiff, Nat.reduceAdd, Nat.reduceMul, Nat.reduceSub, Nat.reduceLT, Nat.reduceLeDiff, Nat.reduceDiv, Nat.reduceMod, Nat.reduceSucc, Int.reduceLE, Int.reduceLT, Int.reduceNeg, Int.reduceAdd, Int.reduceSub, Int.reduceMul, Int.reduceEq, Int.reduceNe, Int.reduceToNat, and_self, List.getElem?_cons_zero, List.getElem?_cons_succ, *])
    | (refine run_nil ?_; refine to_normal ?_)
    | (refine run_nil ?_)
    | (refine Hide.out hK _ ?_; clear hK K)
    | (refine Hide.out hM _ ?_; clear hM M)
    | (refine run_x rfl (by simp only [go_sem, reduceIte, ↓reduceIte, reduceCtorEq, Nat.reduceEqDiff, Nat.reduceAdd, Nat.reduceMul, Nat.reduceSub, Nat.reduceLT, Nat.reduceLeDiff, Nat.reduceDiv, Nat.reduceMod, Nat.reduceSucc, Int.reduceLE, Int.reduceLT, Int.reduceNeg, Int.reduceAdd, Int.reduceSub, Int.reduceMul, Int.reduceEq, Int.reduceNe, Int.reduceToNat, and_self, List.getElem?_cons_zero, List.getElem?_cons_succ, *]; rfl) ?_)
    | (refine gcase_t ?_)
    | (refine gcase_b (fun hb => ?_) (fun hb => ?_) <;> first | (cases hb) | (simp only [Bool.not_true, Bool.not_false, Bool.not_eq_true', Bool.not_eq_false', Bool.not_eq_true, Bool.not_eq_false, decide_eq_true_eq, decide_eq_false_iff_not] at hb) | skip)
    | (refine fun (K : Out → Prop) hK => ?_; simp only [go_sem, reduceIte, ↓reduceIte, reduceCtorEq, Nat.reduceEqDiff, Nat.reduceAdd, Nat.reduceMul, Nat.reduceSub, Nat.reduceLT, Nat.reduceLeDiff, Nat.reduceDiv, Nat.reduceMod, Nat.reduceSucc, Int.reduceLE, Int.reduceLT, Int.reduceNeg, Int.reduceAdd, Int.reduceSub, Int.reduceMul, Int.reduceEq, Int.reduceNe, Int.reduceToNat, and_self, List.getElem?_cons_zero, List.getElem?_cons_succ, *])
    | (refine awp_cond _ (by simp only [go_sem, reduceIte, ↓reduceIte, reduceCtorEq, Nat.reduceEqDiff, Nat.reduceAdd, Nat.reduceMul, Nat.reduceSub, Nat.reduceLT, Nat.reduceLeDiff, Nat.reduceDiv, Nat.reduceMod, Nat.reduceSucc, Int.reduceLE, Int.reduceLT, Int.reduceNeg, Int.reduceAdd, Int.reduceSub, Int.reduceMul, Int.reduceEq, Int.reduceNe, Int.reduceToNat, and_self, List.getElem?_cons_zero, List.getElem?_cons_succ, *]; rfl) (fun hb => ?_) (fun hb => ?_) <;> first | (cases hb) | (simp only [Bool.not_true, Bool.not_false, Bool.not_eq_true', Bool.not_eq_false', Bool.not_eq_true, Bool.not_eq_false, decide_eq_true_eq, decide_eq_false_iff_not] at hb) | skip)
    | (refine draw_o fun K hK => ?_; simp only [go_sem, reduceIte, ↓reduceIte, reduceCtorEq, Nat.reduceEqDiff, Nat.reduceAdd, Nat.reduceMul, Nat.reduceSub, Nat.reduceLT, Nat.reduceLeDiff, Nat.reduceDiv, Nat.reduceMod, Nat.reduceSucc, Int.reduceLE, Int.reduceLT, Int.reduceNeg, Int.reduceAdd, Int.reduceSub, Int.reduceMul, Int.reduceEq, Int.reduceNe, Int.reduceToNat, and_self, List.getElem?_cons_zero, List.getElem?_cons_succ, *])
    | (refine draw_nil ?_; refine to_normal ?_)
    | (refine draw_nil ?_)
    | (refine Hide.out hK _ (by first | exact dyn_v | exact dyn_m | exact dyn_b | exact dyn_s | exact dyn_a | exact dyn_c (Nat.le_of_ble_eq_true rfl)) ?_; clear hK K)
    | (refine draw_x rfl (by simp only [go_sem, reduceIte, ↓reduceIte, reduceCtorEq, Nat.reduceEqDiff, Nat.reduceAdd, Nat.reduceMul, Nat.reduceSub, Nat.reduceLT, Nat.reduceLeDiff, Nat.reduceDiv, Nat.reduceMod, Nat.reduceSucc, Int.reduceLE, Int.reduceLT, Int.reduceNeg, Int.reduceAdd, Int.reduceSub, Int.reduceMul, Int.reduceEq, Int.reduceNe, Int.reduceToNat, and_self, List.getElem?_cons_zero, List.getElem?_cons_succ, *]; rfl) ?_)
    | (refine ⟨_, c1, [], .inl rfl, ?_⟩; simp only [go_sem, reduceIte, ↓reduceIte, reduceCtorEq, Nat.reduceEqDiff, Nat.reduceAdd, Nat.reduceMul, Nat.reduceSub, Nat.reduceLT, Nat.reduceLeDiff, Nat.reduceDiv, Nat.reduceMod, Nat.reduceSucc, Int.reduceLE, Int.reduceLT, Int.reduceNeg, Int.reduceAdd, Int.reduceSub, Int.reduceMul, Int.reduceEq, Int.reduceNe, Int.reduceToNat, and_self, List.getElem?_cons_zero, List.getElem?_cons_succ, *])
    | (refine ⟨_, c1, [], .inr ⟨rfl, by simp [R.flat, C.flat]⟩, ?_⟩; simp only [go_sem, reduceIte, ↓reduceIte, reduceCtorEq, Nat.reduceEqDiff, Nat.reduceAdd, Nat.reduceMul, Nat.reduceSub, Nat.reduceLT, Nat.reduceLeDiff, Nat.reduceDiv, Nat.reduceMod, Nat.reduceSucc, Int.reduceLE, Int.reduceLT, Int.reduceNeg, Int.reduceAdd, Int.reduceSub, Int.reduceMul, Int.reduceEq, Int.reduceNe, Int.reduceToNat, and_self, List.getElem?_cons_zero, List.getElem?_cons_succ, *])
    | (refine ⟨_, c1, _, .inl rfl, ?_⟩; simp only [go_sem, reduceIte, ↓reduceIte, reduceCtorEq, Nat.reduceEqDiff, Nat.reduceAdd, Nat.reduceMul, Nat.reduceSub, Nat.reduceLT, Nat.reduceLeDiff, Nat.reduceDiv, Nat.reduceMod, Nat.reduceSucc, Int.reduceLE, Int.reduceLT, Int.reduceNeg, Int.reduceAdd, Int.reduceSub, Int.reduceMul, Int.reduceEq, Int.reduceNe, Int.reduceToNat, and_self, List.getElem?_cons_zero, List.getElem?_cons_succ, *])
    | (refine ⟨_, c2, [], .inl rfl, ?_⟩; simp only [go_sem, reduceIte, ↓reduceIte, reduceCtorEq, Nat.reduceEqDiff, Nat.reduceAdd, Nat.reduceMul, Nat.reduceSub, Nat.reduceLT, Nat.reduceLeDiff, Nat.reduceDiv, Nat.reduceMod, Nat.reduceSucc, Int.reduceLE, Int.reduceLT, Int.reduceNeg, Int.reduceAdd, Int.reduceSub, Int.reduceMul, Int.reduceEq, Int.reduceNe, Int.reduceToNat, and_self, List.getElem?_cons_zero, List.getElem?_cons_succ, *])
    | (refine ⟨_, c2, [], .inr ⟨rfl, by simp [R.flat, C.flat]⟩, ?_⟩; simp only [go_sem, reduceIte, ↓reduceIte, reduceCtorEq, Nat.reduceEqDiff, Nat.reduceAdd, Nat.reduceMul, Nat.reduceSub, Nat.reduceLT, Nat.reduceLeDiff, Nat.reduceDiv, Nat.reduceMod, Nat.reduceSucc, Int.reduceLE, Int.reduceLT, Int.reduceNeg, Int.reduceAdd, Int.reduceSub, Int.reduceMul, Int.reduceEq, Int.reduceNe, Int.reduceToNat, and_self, List.getElem?_cons_zero, List.getElem?_cons_succ, *])
    | (refine ⟨_, c2, _, .inl rfl, ?_⟩; simp only [go_sem, reduceIte, ↓reduceIte, reduceCtorEq, Nat.reduceEqDiff, Nat.reduceAdd, Nat.reduceMul, Nat.reduceSub, Nat.reduceLT, Nat.reduceLeDiff, Nat.reduceDiv, Nat.reduceMod, Nat.reduceSucc, Int.reduceLE, Int.reduceLT, Int.reduceNeg, Int.reduceAdd, Int.reduceSub, Int.reduceMul, Int.reduceEq, Int.reduceNe, Int.reduceToNat, and_self, List.getElem?_cons_zero, List.getElem?_cons_succ, *])
    | (refine ⟨_, c3, [], .inl rfl, ?_⟩; simp only [go_sem, reduceIte, ↓reduceIte, reduceCtorEq, Nat.reduceEqDiff, Nat.reduceAdd, Nat.reduceMul, Nat.reduceSub, Nat.reduceLT, Nat.reduceLeDiff, Nat.reduceDiv, Nat.reduceMod, Nat.reduceSucc, Int.reduceLE, Int.reduceLT, Int.reduceNeg, Int.reduceAdd, Int.reduceSub, Int.reduceMul, Int.reduceEq, Int.reduceNe, Int.reduceToNat, and_self, List.getElem?_cons_zero, List.getElem?_cons_succ, *])
    | (refine ⟨_, c3, [], .inr ⟨rfl, by simp [R.flat, C.flat]⟩, ?_⟩; simp only [go_sem, reduceIte, ↓reduceIte, reduceCtorEq, Nat.reduceEqDiff, Nat.reduceAdd, Nat.reduceMul, Nat.reduceSub, Nat.reduceLT, Nat.reduceLeDiff, Nat.reduceDiv, Nat.reduceMod, Nat.reduceSucc, Int.reduceLE, Int.reduceLT, Int.reduceNeg, Int.reduceAdd, Int.reduceSub, Int.reduceMul, Int.reduceEq, Int.reduceNe, Int.reduceToNat, and_self, List.getElem?_cons_zero, List.getElem?_cons_succ, *])
    | (refine ⟨_, c3, _, .inl rfl, ?_⟩; simp only [go_sem, reduceIte, ↓reduceIte, reduceCtorEq, Nat.reduceEqDiff, Nat.reduceAdd, Nat.reduceMul, Nat.reduceSub, Nat.reduceLT, Nat.reduceLeDiff, Nat.reduceDiv, Nat.reduceMod, Nat.reduceSucc, Int.reduceLE, Int.reduceLT, Int.reduceNeg, Int.reduceAdd, Int.reduceSub, Int.reduceMul, Int.reduceEq, Int.reduceNe, Int.reduceToNat, and_self, List.getElem?_cons_zero, List.getElem?_cons_succ, *])
    | (refine ⟨_, c4, [], .inl rfl, ?_⟩; simp only [go_sem, reduceIte, ↓reduceIte, reduceCtorEq, Nat.reduceEqDiff, Nat.reduceAdd, Nat.reduceMul, Nat.reduceSub, Nat.reduceLT, Nat.reduceLeDiff, Nat.reduceDiv, Nat.reduceMod, Nat.reduceSucc, Int.reduceLE, Int.reduceLT, Int.reduceNeg, Int.reduceAdd, Int.reduceSub, Int.reduceMul, Int.reduceEq, Int.reduceNe, Int.reduceToNat, and_self, List.getElem?_cons_zero, List.getElem?_cons_succ, *])
    | (refine ⟨_, c4, [], .inr ⟨rfl, by simp [R.flat, C.flat]⟩, ?_⟩; simp only [go_sem, reduceIte, ↓reduceIte, reduceCtorEq, Nat.reduceEqDiff, Nat.reduceAdd, Nat.reduceMul, Nat.reduceSub, Nat.reduceLT, Nat.reduceLeDiff, Nat.reduceDiv, Nat.reduceMod, Nat.reduceSucc, Int.reduceLE, Int.reduceLT, Int.reduceNeg, Int.reduceAdd, Int.reduceSub, Int.reduceMul, Int.reduceEq, Int.reduceNe, Int.reduceToNat, and_self, List.getElem?_cons_zero, List.getElem?_cons_succ, *])
    | (refine ⟨_, c4, _, .inl rfl, ?_⟩; simp only [go_sem, reduceIte, ↓reduceIte, reduceCtorEq, Nat.reduceEqDiff, Nat.reduceAdd, Nat.reduceMul, Nat.reduceSub, Nat.reduceLT, Nat.reduceLeDiff, Nat.reduceDiv, Nat.reduceMod, Nat.reduceSucc, Int.reduceLE, Int.reduceLT, Int.reduceNeg, Int.reduceAdd, Int.reduceSub, Int.reduceMul, Int.reduceEq, Int.reduceNe, Int.reduceToNat, and_self, List.getElem?_cons_zero, List.getElem?_cons_succ, *])
    | (refine ⟨_, c5, [], .inl rfl, ?_⟩; simp only [go_sem, reduceIte, ↓reduceIte, reduceCtorEq, Nat.reduceEqDiff, Nat.reduceAdd, Nat.reduceMul, Nat.reduceSub, Nat.reduceLT, Nat.reduceLeDiff, Nat.reduceDiv, Nat.reduceMod, Nat.reduceSucc, Int.reduceLE, Int.reduceLT, Int.reduceNeg, Int.reduceAdd, Int.reduceSub, Int.reduceMul, Int.reduceEq, Int.reduceNe, Int.reduceToNat, and_self, List.getElem?_cons_zero, List.getElem?_cons_succ, *])
    | (refine ⟨_, c5, [], .inr ⟨rfl, by simp [R.flat, C.flat]⟩, ?_⟩; simp only [go_sem, reduceIte, ↓reduceIte, reduceCtorEq, Nat.reduceEqDiff, Nat.reduceAdd, Nat.reduceMul, Nat.reduceSub, Nat.reduceLT, Nat.reduceLeDiff, Nat.reduceDiv, Nat.reduceMod, Nat.reduceSucc, Int.reduceLE, Int.reduceLT, Int.reduceNeg, Int.reduceAdd, Int.reduceSub, Int.reduceMul, Int.reduceEq, Int.reduceNe, Int.reduceToNat, and_self, List.getElem?_cons_zero, List.getElem?_cons_succ, *])
    | (refine ⟨_, c5, _, .inl rfl, ?_⟩; simp only [go_sem, reduceIte, ↓reduceIte, reduceCtorEq, Nat.reduceEqDiff, Nat.reduceAdd, Nat.reduceMul, Nat.reduceSub, Nat.reduceLT, Nat.reduceLeDiff, Nat.reduceDiv, Nat.reduceMod, Nat.reduceSucc, Int.reduceLE, Int.reduceLT, Int.reduceNeg, Int.reduceAdd, Int.reduceSub, Int.reduceMul, Int.reduceEq, Int.reduceNe, Int.reduceToNat, and_self, List.getElem?_cons_zero, List.getElem?_cons_succ, *])
    | (refine awp_block ?_)
    | (refine awp_skip ?_)
    | (refine awp_exit ?_)
    | (refine awp_ret ?_)
    | (refine to_normal ?_)
    | (refine to_ret ?_)
    | (refine to_exit ?_)
    | (refine out_normal ?_)
    | (refine out_ret ?_)
    | (refine out_exit ?_)
    | (refine out_exit' rfl ?_)
    | (refine fin_ret ?_)
    | (refine fin_normal ?_)
    | (refine use_hide (by assumption) ?_)
    | (refine And.intro (by omega) ?_)
    | fail)
  all_goals refine retOk_def (by simp [Try.f32]) (by simp only [Try.f32, go_sem, reduceIte, ↓reduceIte, reduceCtorEq, Nat.reduceEqDiff, Nat.reduceAdd, Nat.reduceMul, Nat.reduceSub, Nat.reduceLT, Nat.reduceLeDiff, Nat.reduceDiv, Nat.reduceMod, Nat.reduceSucc, Int.reduceLE, Int.reduceLT, Int.reduceNeg, Int.reduceAdd, Int.reduceSub, Int.reduceMul, Int.reduceEq, Int.reduceNe, Int.reduceToNat, and_self, List.getElem?_cons_zero, List.getElem?_cons_succ, *]; rfl) rfl ?_ ?_ ?_
  all_goals try simp only [go_sem, reduceIte, ↓reduceIte, reduceCtorEq, Nat.reduceEqDiff, Nat.reduceAdd, Nat.reduceMul, Nat.reduceSub, Nat.reduceLT, Nat.reduceLeDiff, Nat.reduceDiv, Nat.reduceMod, Nat.reduceSucc, Int.reduceLE, Int.reduceLT, Int.reduceNeg, Int.reduceAdd, Int.reduceSub, Int.reduceMul, Int.reduceEq, Int.reduceNe, Int.reduceToNat, and_self, List.getElem?_cons_zero, List.getElem?_cons_succ, *]
end Go.Proofs
