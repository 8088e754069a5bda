/- Layer 34's examples. -/
import Derived.Test.YtlgnflbekdldnaaAvF20
set_option linter.unusedVariables false
set_option linter.unusedSimpArgs false
set_option maxRecDepth 4000
set_option maxHeartbeats 1000000
namespace Go.Proofs
open Go.AV Go.RowKit
attribute [local irreducible] dynOk Out.quiet Out.small AWp aRun dWalk aOut thenA inBlockA retOk retAVs AS.init Out.apply
def RT.o1 : GPolicy := ⟨⟨#[]⟩, 0, 0, 0, 0, 2, 200, 0, 3, []⟩
def RT.o2 : GPolicy := ⟨⟨#[]⟩, 0, 0, 10, 0, 4, 0, 0, 0, []⟩
def RT.o3 : GPolicy := ⟨⟨#[]⟩, 0, 0, 0, 0, 0, 0, 0, 0, []⟩
def RT.o4 : GPolicy := ⟨⟨#[]⟩, 0, 0, 0, 0, 0, 0, 0, 0, [⟨#[98, 97, 100]⟩]⟩
theorem RT.o1_ok : RT.o1.ok := ⟨by decide, rfl, rfl, rfl, rfl, rfl, rfl, rfl, rfl, ⟨by simp [RT.o1], by decide⟩, trivial⟩
theorem RT.o2_ok : RT.o2.ok := ⟨by decide, rfl, rfl, rfl, rfl, rfl, rfl, rfl, rfl, ⟨by simp [RT.o2], by decide⟩, trivial⟩
theorem RT.o3_ok : RT.o3.ok := ⟨by decide, rfl, rfl, rfl, rfl, rfl, rfl, rfl, rfl, ⟨by simp [RT.o3], by decide⟩, trivial⟩
theorem Try.k58 : AV.Spec Try.prog 58 [] [.one (.c (.bool true))] := by
  have n0 : ∀ {p : Prop}, (0 : Int) < 0 → p := fun h => absurd h (by decide)
  have c1 := Try.k61 RT.o1 RT.o1_ok 2 ⟨#[120]⟩ 0 0 0 rfl n0
  have e1 : RT.again RT.o1 2 ⟨#[120]⟩ 0 0 0 = (4, true) := by decide +kernel
  have c2 := Try.k61 RT.o1 RT.o1_ok 3 ⟨#[120]⟩ 0 0 0 rfl n0
  have e2 : RT.again RT.o1 3 ⟨#[120]⟩ 0 0 0 = (0, false) := by decide +kernel
  have c3 := Try.k61 RT.o2 RT.o2_ok 1 ⟨#[120]⟩ 5 0 0 rfl n0
  have e3 : RT.again RT.o2 1 ⟨#[120]⟩ 5 0 0 = (4, true) := by decide +kernel
  have c4 := Try.k61 RT.o2 RT.o2_ok 1 ⟨#[120]⟩ 6 0 0 rfl n0
  have e4 : RT.again RT.o2 1 ⟨#[120]⟩ 6 0 0 = (0, false) := by decide +kernel
  have c5 := Try.k59 RT.o1 RT.o1_ok 3 0 0 n0
  have e5 : RT.delay RT.o1 3 0 0 = 8 := by decide +kernel
  have c6 := Try.k59 RT.o3 RT.o3_ok 8 0 0 n0
  have e6 : RT.delay RT.o3 8 0 0 = 100 := by decide +kernel
  have c7 := Try.k63 RT.o4 (by decide) ⟨#[98, 97, 100]⟩
  have e7 : RT.fatal RT.o4 ⟨#[98, 97, 100]⟩ = true := by decide +kernel
  rw [e1] at c1
  rw [e2] at c2
  rw [e3] at c3
  rw [e4] at c4
  rw [e5] at c5
  rw [e6] at c6
  rw [e7] at c7
  clear e1 e2 e3 e4 e5 e6 e7 n0
  refine spec_of_body Try.func58 rfl rfl (by simp) (fun B w0 => ?_)
  repeat' (first
    | (refine seq_x fun M hM => ?_)
    | (refine awp_region (by kernel_rfl) ?_)
    | (refine awp_draw Try.follow (by kernel_rfl) (by kernel_rfl) ?_)
    | (refine run_o fun K hK => ?_; simp only [go_sem, *])
    | (refine run_nil ?_; refine to_normal ?_)
    | (refine run_nil ?_)
    | (refine Hide.out hK _ ?_; clear hK K)
    | (refine Hide.out hM _ ?_; clear hM M)
    | (refine run_x rfl (by simp only [go_sem, *]; rfl) ?_)
    | (refine gcase_t ?_)
    | (refine gcase_b (fun hb => ?_) (fun hb => ?_) <;> first | (injection hb) | (subst hb) | (simp only [Bool.not_true, Bool.not_false, Bool.not_eq_true', Bool.not_eq_false', Bool.not_eq_true, Bool.not_eq_false, decide_eq_true_eq, decide_eq_false_iff_not] at hb) | skip)
    | (refine fun (K : Out → Prop) hK => ?_; simp only [go_sem, *])
    | (refine fun (b : Bool) (hT : _ → b = false) => ?_)
    | (refine awp_cond _ (by simp only [go_sem, *]; rfl) (fun hb => ?_) (fun hb => ?_) <;> first | (injection hb) | (subst hb) | (simp only [Bool.not_true, Bool.not_false, Bool.not_eq_true', Bool.not_eq_false', Bool.not_eq_true, Bool.not_eq_false, decide_eq_true_eq, decide_eq_false_iff_not] at hb) | skip)
    | (refine draw_o fun K hK => ?_; simp only [go_sem, *])
    | (refine draw_nil ?_; refine to_normal ?_)
    | (refine draw_nil ?_)
    | (refine Hide.out hK _ dyn_v ?_; clear hK K)
    | (refine Hide.out hK _ dyn_m ?_; clear hK K)
    | (refine Hide.out hK _ dyn_b ?_; clear hK K)
    | (refine Hide.out hK _ dyn_p ?_; clear hK K)
    | (refine Hide.out hK _ dyn_s ?_; clear hK K)
    | (refine Hide.out hK _ dyn_a ?_; clear hK K)
    | (refine Hide.out hK _ (dyn_c (Nat.le_of_ble_eq_true rfl)) ?_; clear hK K)
    | (refine draw_x rfl (by simp only [go_sem, *]; rfl) ?_)
    | (refine ⟨_, c1, [], .inl rfl, ?_⟩; simp only [go_sem, *])
    | (refine ⟨_, c1, [], .inr ⟨rfl, flat_of rfl⟩, ?_⟩; simp only [go_sem, *])
    | (refine ⟨_, c1, _, .inl rfl, ?_⟩; simp only [go_sem, *])
    | (refine ⟨_, c2, [], .inl rfl, ?_⟩; simp only [go_sem, *])
    | (refine ⟨_, c2, [], .inr ⟨rfl, flat_of rfl⟩, ?_⟩; simp only [go_sem, *])
    | (refine ⟨_, c2, _, .inl rfl, ?_⟩; simp only [go_sem, *])
    | (refine ⟨_, c3, [], .inl rfl, ?_⟩; simp only [go_sem, *])
    | (refine ⟨_, c3, [], .inr ⟨rfl, flat_of rfl⟩, ?_⟩; simp only [go_sem, *])
    | (refine ⟨_, c3, _, .inl rfl, ?_⟩; simp only [go_sem, *])
    | (refine ⟨_, c4, [], .inl rfl, ?_⟩; simp only [go_sem, *])
    | (refine ⟨_, c4, [], .inr ⟨rfl, flat_of rfl⟩, ?_⟩; simp only [go_sem, *])
    | (refine ⟨_, c4, _, .inl rfl, ?_⟩; simp only [go_sem, *])
    | (refine ⟨_, c5, [], .inl rfl, ?_⟩; simp only [go_sem, *])
    | (refine ⟨_, c5, [], .inr ⟨rfl, flat_of rfl⟩, ?_⟩; simp only [go_sem, *])
    | (refine ⟨_, c5, _, .inl rfl, ?_⟩; simp only [go_sem, *])
    | (refine ⟨_, c6, [], .inl rfl, ?_⟩; simp only [go_sem, *])
    | (refine ⟨_, c6, [], .inr ⟨rfl, flat_of rfl⟩, ?_⟩; simp only [go_sem, *])
    | (refine ⟨_, c6, _, .inl rfl, ?_⟩; simp only [go_sem, *])
    | (refine ⟨_, c7, [], .inl rfl, ?_⟩; simp only [go_sem, *])
    | (refine ⟨_, c7, [], .inr ⟨rfl, flat_of rfl⟩, ?_⟩; simp only [go_sem, *])
    | (refine ⟨_, c7, _, .inl rfl, ?_⟩; simp only [go_sem, *])
    | (refine awp_block ?_)
    | (refine awp_skip ?_)
    | (refine awp_exit ?_)
    | (refine awp_ret ?_)
    | (refine to_normal ?_)
    | (refine to_ret ?_)
    | (refine to_exit ?_)
    | (refine out_normal ?_)
    | (refine out_ret ?_)
    | (refine out_exit ?_)
    | (refine out_exit' rfl ?_)
    | (refine fin_ret ?_)
    | (refine fin_normal ?_)
    | (refine use_hide (by assumption) ?_)
    | (refine And.intro (by omega) ?_)
    | fail)
  all_goals refine retOk_def (by simp [Try.f58, go_sem]) (by simp only [Try.f58, go_sem, *]; rfl) rfl ?_ ?_ ?_
  all_goals simp only [go_sem, *]
theorem Try.k13 (o : GPolicy) (ho : o.ok) : AV.Spec Try.prog 13 [.agg o.cs] [.one (.c (.bool true))] := by
  have c1 := Try.k57 o (RT.ok_fatal ho)
  have c2 := Try.k58
  have c3 := Try.k66 o ho
  have c4 := Try.k68 o ho
  have hok := RT.deflt_ok ho
  have c5 := Try.k66 (RT.deflt o) hok
  rw [RT.deflt_deflt] at c5
  have c6 := Try.k67 (RT.deflt o) (RT.deflt o) (RT.ok_fatal hok)
  clear hok ho
  generalize RT.deflt o = p at c3 c4 c5 c6
  cases hl : RT.large o
  all_goals
    refine spec_of_body Try.func13 rfl rfl (by simp) (fun B w0 => ?_)
    repeat' (first
      | (refine seq_x fun M hM => ?_)
      | (refine awp_region (by kernel_rfl) ?_)
      | (refine awp_draw Try.follow (by kernel_rfl) (by kernel_rfl) ?_)
      | (refine run_o fun K hK => ?_; simp only [go_sem, *])
      | (refine run_nil ?_; refine to_normal ?_)
      | (refine run_nil ?_)
      | (refine Hide.out hK _ ?_; clear hK K)
      | (refine Hide.out hM _ ?_; clear hM M)
      | (refine run_x rfl (by simp only [go_sem, *]; rfl) ?_)
      | (refine gcase_t ?_)
      | (refine gcase_b (fun hb => ?_) (fun hb => ?_) <;> first | (injection hb) | (subst hb) | (simp only [Bool.not_true, Bool.not_false, Bool.not_eq_true', Bool.not_eq_false', Bool.not_eq_true, Bool.not_eq_false, decide_eq_true_eq, decide_eq_false_iff_not] at hb) | skip)
      | (refine fun (K : Out → Prop) hK => ?_; simp only [go_sem, *])
      | (refine fun (b : Bool) (hT : _ → b = false) => ?_)
      | (refine awp_cond _ (by simp only [go_sem, *]; rfl) (fun hb => ?_) (fun hb => ?_) <;> first | (injection hb) | (subst hb) | (simp only [Bool.not_true, Bool.not_false, Bool.not_eq_true', Bool.not_eq_false', Bool.not_eq_true, Bool.not_eq_false, decide_eq_true_eq, decide_eq_false_iff_not] at hb) | skip)
      | (refine draw_o fun K hK => ?_; simp only [go_sem, *])
      | (refine draw_nil ?_; refine to_normal ?_)
      | (refine draw_nil ?_)
      | (refine Hide.out hK _ dyn_v ?_; clear hK K)
      | (refine Hide.out hK _ dyn_m ?_; clear hK K)
      | (refine Hide.out hK _ dyn_b ?_; clear hK K)
      | (refine Hide.out hK _ dyn_p ?_; clear hK K)
      | (refine Hide.out hK _ dyn_s ?_; clear hK K)
      | (refine Hide.out hK _ dyn_a ?_; clear hK K)
      | (refine Hide.out hK _ (dyn_c (Nat.le_of_ble_eq_true rfl)) ?_; clear hK K)
      | (refine draw_x rfl (by simp only [go_sem, *]; rfl) ?_)
      | (refine ⟨_, c1, [], .inl rfl, ?_⟩; simp only [go_sem, *])
      | (refine ⟨_, c1, [], .inr ⟨rfl, flat_of rfl⟩, ?_⟩; simp only [go_sem, *])
      | (refine ⟨_, c1, _, .inl rfl, ?_⟩; simp only [go_sem, *])
      | (refine ⟨_, c2, [], .inl rfl, ?_⟩; simp only [go_sem, *])
      | (refine ⟨_, c2, [], .inr ⟨rfl, flat_of rfl⟩, ?_⟩; simp only [go_sem, *])
      | (refine ⟨_, c2, _, .inl rfl, ?_⟩; simp only [go_sem, *])
      | (refine ⟨_, c3, [], .inl rfl, ?_⟩; simp only [go_sem, *])
      | (refine ⟨_, c3, [], .inr ⟨rfl, flat_of rfl⟩, ?_⟩; simp only [go_sem, *])
      | (refine ⟨_, c3, _, .inl rfl, ?_⟩; simp only [go_sem, *])
      | (refine ⟨_, c4, [], .inl rfl, ?_⟩; simp only [go_sem, *])
      | (refine ⟨_, c4, [], .inr ⟨rfl, flat_of rfl⟩, ?_⟩; simp only [go_sem, *])
      | (refine ⟨_, c4, _, .inl rfl, ?_⟩; simp only [go_sem, *])
      | (refine ⟨_, c5, [], .inl rfl, ?_⟩; simp only [go_sem, *])
      | (refine ⟨_, c5, [], .inr ⟨rfl, flat_of rfl⟩, ?_⟩; simp only [go_sem, *])
      | (refine ⟨_, c5, _, .inl rfl, ?_⟩; simp only [go_sem, *])
      | (refine ⟨_, c6, [], .inl rfl, ?_⟩; simp only [go_sem, *])
      | (refine ⟨_, c6, [], .inr ⟨rfl, flat_of rfl⟩, ?_⟩; simp only [go_sem, *])
      | (refine ⟨_, c6, _, .inl rfl, ?_⟩; simp only [go_sem, *])
      | (refine awp_block ?_)
      | (refine awp_skip ?_)
      | (refine awp_exit ?_)
      | (refine awp_ret ?_)
      | (refine to_normal ?_)
      | (refine to_ret ?_)
      | (refine to_exit ?_)
      | (refine out_normal ?_)
      | (refine out_ret ?_)
      | (refine out_exit ?_)
      | (refine out_exit' rfl ?_)
      | (refine fin_ret ?_)
      | (refine fin_normal ?_)
      | (refine use_hide (by assumption) ?_)
      | (refine And.intro (by omega) ?_)
      | fail)
    all_goals refine retOk_def (by simp [Try.f13, go_sem]) (by simp only [Try.f13, go_sem, *]; rfl) rfl ?_ ?_ ?_
    all_goals simp only [go_sem, *]
end Go.Proofs
