/- The laws of layer 15. -/
import Derived.Test.YtlgnflbekdldnaaAvF5
import Derived.Test.YtlgnflbekdldnaaAvF6
import Derived.Test.YtlgnflbekdldnaaAvF7
import Derived.Test.YtlgnflbekdldnaaAvF8
set_option linter.unusedVariables false
set_option linter.unusedSimpArgs false
set_option maxRecDepth 4000
set_option maxHeartbeats 1000000
namespace Go.Proofs
open Go.AV Go.RowKit
attribute [local irreducible] dynOk Out.quiet Out.small AWp aRun dWalk aOut thenA inBlockA retOk retAVs AS.init Out.apply
def FU.f0 : GFuture := ⟨0, 3, 3, FU.zero⟩
def FU.f1 : GFuture := ⟨1, 3, 3, FU.zero⟩
theorem FU.zero_ok : FU.zero.ok := ⟨rfl, rfl, by decide, ⟨trivial, by decide⟩, ⟨by simp, by decide⟩, trivial⟩
theorem FU.f0_ok : ∀ f ∈ [FU.f0], f.ok := by
  intro f hf
  obtain rfl : f = FU.f0 := by simpa using hf
  exact ⟨rfl, rfl, rfl, FU.zero_ok, trivial⟩
theorem FU.f1_ok : ∀ f ∈ [FU.f1], f.ok := by
  intro f hf
  obtain rfl : f = FU.f1 := by simpa using hf
  exact ⟨rfl, rfl, rfl, FU.zero_ok, trivial⟩
theorem Try.k40 : AV.Spec Try.prog 40 [] [.one (.c (.bool true))] := by
  have c1 := Try.k42 [] 3 3 (by decide) (by simp)
  have e1 : FU.new [] 3 3 = ([FU.f0], 0, 0) := rfl
  have c2 := Try.k46 [FU.f0] 0 FU.zero (by decide) FU.f0_ok FU.zero_ok
  have e2 : FU.complete [FU.f0] 0 1 FU.zero = ([FU.f1], 0) := rfl
  have c3 := Try.k46 [FU.f1] 0 FU.zero (by decide) FU.f1_ok FU.zero_ok
  have e3 : FU.complete [FU.f1] 0 1 FU.zero = ([], 16) := rfl
  have c4 := Try.k53 [FU.f1] 0
  have e4 : FU.state [FU.f1] 0 = (1, true) := rfl
  have c5 := Try.k51 [FU.f1] 3 3 (by decide)
  have e5 : FU.find [FU.f1] 3 3 = (0, true) := rfl
  have c6 := Try.k51 [FU.f1] 2 3 (by decide)
  have e6 : FU.find [FU.f1] 2 3 = (0, false) := rfl
  have c7 := Try.k41 [FU.f0] (by decide)
  have e7 : FU.pend [FU.f0] = [0] := rfl
  have c8 := Try.k41 [FU.f1] (by decide)
  have e8 : FU.pend [FU.f1] = [] := rfl
  rw [e1] at c1
  rw [e2] at c2
  rw [e3] at c3
  rw [e4] at c4
  rw [e5] at c5
  rw [e6] at c6
  rw [e7] at c7
  rw [e8] at c8
  clear e1 e2 e3 e4 e5 e6 e7 e8
  refine spec_of_body Try.func40 rfl rfl (by simp) (fun B w0 => ?_)
  repeat' (first
    | (refine seq_x fun M hM => ?_)
    | (refine awp_region (by kernel_rfl) ?_)
    | (refine awp_draw Try.follow (by kernel_rfl) (by kernel_rfl) ?_)
    | (refine run_o fun K hK => ?_; simp only [go_sem, *])
    | (refine run_nil ?_; refine to_normal ?_)
    | (refine run_nil ?_)
    | (refine Hide.out hK _ ?_; clear hK K)
    | (refine Hide.out hM _ ?_; clear hM M)
    | (refine run_x rfl (by simp only [go_sem, *]; rfl) ?_)
    | (refine gcase_t ?_)
    | (refine gcase_b (fun hb => ?_) (fun hb => ?_) <;> first | (injection hb) | (subst hb) | (simp only [Bool.not_true, Bool.not_false, Bool.not_eq_true', Bool.not_eq_false', Bool.not_eq_true, Bool.not_eq_false, decide_eq_true_eq, decide_eq_false_iff_not] at hb) | skip)
    | (refine fun (K : Out → Prop) hK => ?_; simp only [go_sem, *])
    | (refine fun (b : Bool) (hT : _ → b = false) => ?_)
    | (refine awp_cond _ (by simp only [go_sem, *]; rfl) (fun hb => ?_) (fun hb => ?_) <;> first | (injection hb) | (subst hb) | (simp only [Bool.not_true, Bool.not_false, Bool.not_eq_true', Bool.not_eq_false', Bool.not_eq_true, Bool.not_eq_false, decide_eq_true_eq, decide_eq_false_iff_not] at hb) | skip)
    | (refine draw_o fun K hK => ?_; simp only [go_sem, *])
    | (refine draw_nil ?_; refine to_normal ?_)
    | (refine draw_nil ?_)
    | (refine Hide.out hK _ dyn_v ?_; clear hK K)
    | (refine Hide.out hK _ dyn_m ?_; clear hK K)
    | (refine Hide.out hK _ dyn_b ?_; clear hK K)
    | (refine Hide.out hK _ dyn_p ?_; clear hK K)
    | (refine Hide.out hK _ dyn_s ?_; clear hK K)
    | (refine Hide.out hK _ dyn_a ?_; clear hK K)
    | (refine Hide.out hK _ (dyn_c (Nat.le_of_ble_eq_true rfl)) ?_; clear hK K)
    | (refine draw_x rfl (by simp only [go_sem, *]; rfl) ?_)
    | (refine ⟨_, c1, [], .inl rfl, ?_⟩; simp only [go_sem, *])
    | (refine ⟨_, c1, [], .inr ⟨rfl, flat_of rfl⟩, ?_⟩; simp only [go_sem, *])
    | (refine ⟨_, c1, _, .inl rfl, ?_⟩; simp only [go_sem, *])
    | (refine ⟨_, c2, [], .inl rfl, ?_⟩; simp only [go_sem, *])
    | (refine ⟨_, c2, [], .inr ⟨rfl, flat_of rfl⟩, ?_⟩; simp only [go_sem, *])
    | (refine ⟨_, c2, _, .inl rfl, ?_⟩; simp only [go_sem, *])
    | (refine ⟨_, c3, [], .inl rfl, ?_⟩; simp only [go_sem, *])
    | (refine ⟨_, c3, [], .inr ⟨rfl, flat_of rfl⟩, ?_⟩; simp only [go_sem, *])
    | (refine ⟨_, c3, _, .inl rfl, ?_⟩; simp only [go_sem, *])
    | (refine ⟨_, c4, [], .inl rfl, ?_⟩; simp only [go_sem, *])
    | (refine ⟨_, c4, [], .inr ⟨rfl, flat_of rfl⟩, ?_⟩; simp only [go_sem, *])
    | (refine ⟨_, c4, _, .inl rfl, ?_⟩; simp only [go_sem, *])
    | (refine ⟨_, c5, [], .inl rfl, ?_⟩; simp only [go_sem, *])
    | (refine ⟨_, c5, [], .inr ⟨rfl, flat_of rfl⟩, ?_⟩; simp only [go_sem, *])
    | (refine ⟨_, c5, _, .inl rfl, ?_⟩; simp only [go_sem, *])
    | (refine ⟨_, c6, [], .inl rfl, ?_⟩; simp only [go_sem, *])
    | (refine ⟨_, c6, [], .inr ⟨rfl, flat_of rfl⟩, ?_⟩; simp only [go_sem, *])
    | (refine ⟨_, c6, _, .inl rfl, ?_⟩; simp only [go_sem, *])
    | (refine ⟨_, c7, [], .inl rfl, ?_⟩; simp only [go_sem, *])
    | (refine ⟨_, c7, [], .inr ⟨rfl, flat_of rfl⟩, ?_⟩; simp only [go_sem, *])
    | (refine ⟨_, c7, _, .inl rfl, ?_⟩; simp only [go_sem, *])
    | (refine ⟨_, c8, [], .inl rfl, ?_⟩; simp only [go_sem, *])
    | (refine ⟨_, c8, [], .inr ⟨rfl, flat_of rfl⟩, ?_⟩; simp only [go_sem, *])
    | (refine ⟨_, c8, _, .inl rfl, ?_⟩; simp only [go_sem, *])
    | (refine awp_block ?_)
    | (refine awp_skip ?_)
    | (refine awp_exit ?_)
    | (refine awp_ret ?_)
    | (refine to_normal ?_)
    | (refine to_ret ?_)
    | (refine to_exit ?_)
    | (refine out_normal ?_)
    | (refine out_ret ?_)
    | (refine out_exit ?_)
    | (refine out_exit' rfl ?_)
    | (refine fin_ret ?_)
    | (refine fin_normal ?_)
    | (refine use_hide (by assumption) ?_)
    | (refine And.intro (by omega) ?_)
    | fail)
  all_goals refine retOk_def (by simp [Try.f40, go_sem]) (by simp only [Try.f40, go_sem, *]; rfl) rfl ?_ ?_ ?_
  all_goals simp only [go_sem, *]
  all_goals rfl
end Go.Proofs
