/- Layer 34: RetryAgain. -/
import Derived.Test.YtlgnflbekdldnaaAvF21
import Derived.Test.YtlgnflbekdldnaaAvU1
set_option linter.unusedVariables false
set_option linter.unusedSimpArgs false
set_option maxRecDepth 4000
set_option maxHeartbeats 1000000
namespace Go.Proofs
open Go.AV Go.RowKit
attribute [local irreducible] dynOk Out.quiet Out.small AWp aRun dWalk aOut thenA inBlockA retOk retAVs AS.init Out.apply
set_option maxHeartbeats 1000000 in
theorem Try.k11 (o : GPolicy) (ho : o.ok) (a : Int) (f : ByteArray) (p : Int) (hp : IntKind.i64.wrap p = p) (s : Int) : AV.Spec Try.prog 11 [.agg o.cs, .one (.int .i64 a), .one (.str f), .one (.int .i64 p), .one (.int .i64 s)] [.one (.c (.bool true))] := by
  have c1 := Try.k57 o (RT.ok_fatal ho)
  have c2 := Try.k58
  have c3 := Try.k61 o ho a f p s _ hp (fun _ => Try.k131 s a (RT.raw o a))
  have c4 := Try.k62 o ho a f p s _ hp (fun _ => Try.k132 s a (RT.raw o a))
  have c5 := Try.k63 o (RT.ok_fatal ho) f
  have c6 := Try.k64 o (RT.ok_fatal ho) f
  clear ho hp
  generalize RT.again o a f p s _ = r at c3 c4
  obtain ⟨d, b⟩ := r
  generalize RT.fatal o f = g at c5 c6
  dsimp only at c3 c4
  cases hl : RT.large o
  all_goals by_cases hf : (500 : Int) < (f.size : Int)
  all_goals
    refine spec_of_body Try.func11 rfl rfl (by simp) (fun B w0 => ?_)
    repeat' (first
      | (refine seq_x fun M hM => ?_)
      | (refine awp_region (by kernel_rfl) ?_)
      | (refine awp_draw Try.follow (by kernel_rfl) (by kernel_rfl) ?_)
      | (refine run_o fun K hK => ?_; simp only [go_sem, *])
      | (refine run_nil ?_; refine to_normal ?_)
      | (refine run_nil ?_)
      | (refine Hide.out hK _ ?_; clear hK K)
      | (refine Hide.out hM _ ?_; clear hM M)
      | (refine run_x rfl (by simp only [go_sem, *]; rfl) ?_)
      | (refine gcase_t ?_)
      | (refine gcase_b (fun hb => ?_) (fun hb => ?_) <;> first | (injection hb) | (subst hb) | (simp only [Bool.not_true, Bool.not_false, Bool.not_eq_true', Bool.not_eq_false', Bool.not_eq_true, Bool.not_eq_false, decide_eq_true_eq, decide_eq_false_iff_not] at hb) | skip)
      | (refine fun (K : Out → Prop) hK => ?_; simp only [go_sem, *])
      | (refine fun (b : Bool) (hT : _ → b = false) => ?_)
      | (refine awp_cond _ (by simp only [go_sem, *]; rfl) (fun hb => ?_) (fun hb => ?_) <;> first | (injection hb) | (subst hb) | (simp only [Bool.not_true, Bool.not_false, Bool.not_eq_true', Bool.not_eq_false', Bool.not_eq_true, Bool.not_eq_false, decide_eq_true_eq, decide_eq_false_iff_not] at hb) | skip)
      | (refine draw_o fun K hK => ?_; simp only [go_sem, *])
      | (refine draw_nil ?_; refine to_normal ?_)
      | (refine draw_nil ?_)
      | (refine Hide.out hK _ dyn_v ?_; clear hK K)
      | (refine Hide.out hK _ dyn_m ?_; clear hK K)
      | (refine Hide.out hK _ dyn_b ?_; clear hK K)
      | (refine Hide.out hK _ dyn_p ?_; clear hK K)
      | (refine Hide.out hK _ dyn_s ?_; clear hK K)
      | (refine Hide.out hK _ dyn_a ?_; clear hK K)
      | (refine Hide.out hK _ (dyn_c (Nat.le_of_ble_eq_true rfl)) ?_; clear hK K)
      | (refine draw_x rfl (by simp only [go_sem, *]; rfl) ?_)
      | (refine ⟨_, c1, [], .inl rfl, ?_⟩; simp only [go_sem, *])
      | (refine ⟨_, c1, [], .inr ⟨rfl, flat_of rfl⟩, ?_⟩; simp only [go_sem, *])
      | (refine ⟨_, c1, _, .inl rfl, ?_⟩; simp only [go_sem, *])
      | (refine ⟨_, c2, [], .inl rfl, ?_⟩; simp only [go_sem, *])
      | (refine ⟨_, c2, [], .inr ⟨rfl, flat_of rfl⟩, ?_⟩; simp only [go_sem, *])
      | (refine ⟨_, c2, _, .inl rfl, ?_⟩; simp only [go_sem, *])
      | (refine ⟨_, c3, [], .inl rfl, ?_⟩; simp only [go_sem, *])
      | (refine ⟨_, c3, [], .inr ⟨rfl, flat_of rfl⟩, ?_⟩; simp only [go_sem, *])
      | (refine ⟨_, c3, _, .inl rfl, ?_⟩; simp only [go_sem, *])
      | (refine ⟨_, c4, [], .inl rfl, ?_⟩; simp only [go_sem, *])
      | (refine ⟨_, c4, [], .inr ⟨rfl, flat_of rfl⟩, ?_⟩; simp only [go_sem, *])
      | (refine ⟨_, c4, _, .inl rfl, ?_⟩; simp only [go_sem, *])
      | (refine ⟨_, c5, [], .inl rfl, ?_⟩; simp only [go_sem, *])
      | (refine ⟨_, c5, [], .inr ⟨rfl, flat_of rfl⟩, ?_⟩; simp only [go_sem, *])
      | (refine ⟨_, c5, _, .inl rfl, ?_⟩; simp only [go_sem, *])
      | (refine ⟨_, c6, [], .inl rfl, ?_⟩; simp only [go_sem, *])
      | (refine ⟨_, c6, [], .inr ⟨rfl, flat_of rfl⟩, ?_⟩; simp only [go_sem, *])
      | (refine ⟨_, c6, _, .inl rfl, ?_⟩; simp only [go_sem, *])
      | (refine awp_block ?_)
      | (refine awp_skip ?_)
      | (refine awp_exit ?_)
      | (refine awp_ret ?_)
      | (refine to_normal ?_)
      | (refine to_ret ?_)
      | (refine to_exit ?_)
      | (refine out_normal ?_)
      | (refine out_ret ?_)
      | (refine out_exit ?_)
      | (refine out_exit' rfl ?_)
      | (refine fin_ret ?_)
      | (refine fin_normal ?_)
      | (refine use_hide (by assumption) ?_)
      | (refine And.intro (by omega) ?_)
      | fail)
    all_goals refine retOk_def (by simp [Try.f11, go_sem]) (by simp only [Try.f11, go_sem, *]; rfl) rfl ?_ ?_ ?_
    all_goals simp only [go_sem, *]
end Go.Proofs
