/- Whether a failed attempt is repeated. -/
import Derived.Test.YtlgnflbekdldnaaAvF19
set_option linter.unusedVariables false
set_option linter.unusedSimpArgs false
set_option maxRecDepth 4000
set_option maxHeartbeats 1000000
namespace Go.Proofs
open Go.AV Go.RowKit
attribute [local irreducible] dynOk Out.quiet Out.small AWp aRun dWalk aOut thenA inBlockA retOk retAVs AS.init Out.apply
set_option maxHeartbeats 1000000 in
theorem Try.k61 (o : GPolicy) (ho : o.ok) (attempt : Int) (f : ByteArray) (spent seed j : Int) (hs : IntKind.i64.wrap spent = spent) (hj : 0 < seed → AV.Spec Try.prog 131 [.one (.int .i64 seed), .one (.int .i64 attempt), .one (.int .i64 (RT.raw o attempt)), .one (.int .i64 10)] [.one (.c (.int .i64 j))]) :
    AV.Spec Try.prog 61 [.agg o.cs, .one (.int .i64 attempt), .one (.str f), .one (.int .i64 spent), .one (.int .i64 seed)] [.one (.c (.int .i64 (RT.again o attempt f spent seed j).1)), .one (.c (.bool (RT.again o attempt f spent seed j).2))] := by
  have c1 := Try.k129 o ho
  have c2 := Try.k63 o (RT.ok_fatal ho) f
  have c3 := Try.k59 o ho attempt seed j hj
  have hw : RT.right o = true → ¬ spent < 0 → Hide (IntKind.i64.wrap (o.Total - spent) = o.Total - spent) := fun h h0 => ⟨by
    have := (RT.right_bnd h).tot
    have := (wrap_iff .i64 spent).1 hs; change -9223372036854775808 ≤ spent ∧ spent ≤ 9223372036854775807 at this
    rw [w64] <;> omega⟩
  clear ho hj hs
  rcases RT.again_cases o attempt f spent seed j with ⟨h1, hr⟩ | ⟨h1, h2, hr⟩ | ⟨h1, h2, h3, hr⟩ | ⟨h1, h2, h3, h4, hr⟩ | ⟨h1, h2, h3, h4, h5, hr⟩ | ⟨h1, h2, h3, h4, h5, h6, h7, hr⟩ | ⟨h1, h2, h3, h4, h5, h6 | ⟨h6, h7⟩, h8, h9, hr⟩ | ⟨h1, h2, h3, h4, h5, h6 | ⟨h6, h7⟩, h8 | ⟨h8, h9⟩, hr⟩
  all_goals rw [hr]
  all_goals first
    | (have hw' := (hw (by assumption) (by assumption)).out; clear hw hr)
    | clear hw hr
  all_goals
    refine spec_of_body Try.func61 rfl rfl (by simp) (fun B w0 => ?_)
    repeat' (first
      | (refine seq_x fun M hM => ?_)
      | (refine awp_region (by kernel_rfl) ?_)
      | (refine awp_draw Try.follow (by kernel_rfl) (by kernel_rfl) ?_)
      | (refine run_o fun K hK => ?_; simp only [go_sem, *])
      | (refine run_nil ?_; refine to_normal ?_)
      | (refine run_nil ?_)
      | (refine Hide.out hK _ ?_; clear hK K)
      | (refine Hide.out hM _ ?_; clear hM M)
      | (refine run_x rfl (by simp only [go_sem, *]; rfl) ?_)
      | (refine gcase_t ?_)
      | (refine gcase_b (fun hb => ?_) (fun hb => ?_) <;> first | (injection hb) | (subst hb) | (simp only [Bool.not_true, Bool.not_false, Bool.not_eq_true', Bool.not_eq_false', Bool.not_eq_true, Bool.not_eq_false, decide_eq_true_eq, decide_eq_false_iff_not] at hb) | skip)
      | (refine fun (K : Out → Prop) hK => ?_; simp only [go_sem, *])
      | (refine fun (b : Bool) (hT : _ → b = false) => ?_)
      | (refine awp_cond _ (by simp only [go_sem, *]; rfl) (fun hb => ?_) (fun hb => ?_) <;> first | (injection hb) | (subst hb) | (simp only [Bool.not_true, Bool.not_false, Bool.not_eq_true', Bool.not_eq_false', Bool.not_eq_true, Bool.not_eq_false, decide_eq_true_eq, decide_eq_false_iff_not] at hb) | skip)
      | (refine draw_o fun K hK => ?_; simp only [go_sem, *])
      | (refine draw_nil ?_; refine to_normal ?_)
      | (refine draw_nil ?_)
      | (refine Hide.out hK _ dyn_v ?_; clear hK K)
      | (refine Hide.out hK _ dyn_m ?_; clear hK K)
      | (refine Hide.out hK _ dyn_b ?_; clear hK K)
      | (refine Hide.out hK _ dyn_p ?_; clear hK K)
      | (refine Hide.out hK _ dyn_s ?_; clear hK K)
      | (refine Hide.out hK _ dyn_a ?_; clear hK K)
      | (refine Hide.out hK _ (dyn_c (Nat.le_of_ble_eq_true rfl)) ?_; clear hK K)
      | (refine draw_x rfl (by simp only [go_sem, *]; rfl) ?_)
      | (refine ⟨_, c1, [], .inl rfl, ?_⟩; simp only [go_sem, *])
      | (refine ⟨_, c1, [], .inr ⟨rfl, flat_of rfl⟩, ?_⟩; simp only [go_sem, *])
      | (refine ⟨_, c1, _, .inl rfl, ?_⟩; simp only [go_sem, *])
      | (refine ⟨_, c2, [], .inl rfl, ?_⟩; simp only [go_sem, *])
      | (refine ⟨_, c2, [], .inr ⟨rfl, flat_of rfl⟩, ?_⟩; simp only [go_sem, *])
      | (refine ⟨_, c2, _, .inl rfl, ?_⟩; simp only [go_sem, *])
      | (refine ⟨_, c3, [], .inl rfl, ?_⟩; simp only [go_sem, *])
      | (refine ⟨_, c3, [], .inr ⟨rfl, flat_of rfl⟩, ?_⟩; simp only [go_sem, *])
      | (refine ⟨_, c3, _, .inl rfl, ?_⟩; simp only [go_sem, *])
      | (refine awp_block ?_)
      | (refine awp_skip ?_)
      | (refine awp_exit ?_)
      | (refine awp_ret ?_)
      | (refine to_normal ?_)
      | (refine to_ret ?_)
      | (refine to_exit ?_)
      | (refine out_normal ?_)
      | (refine out_ret ?_)
      | (refine out_exit ?_)
      | (refine out_exit' rfl ?_)
      | (refine fin_ret ?_)
      | (refine fin_normal ?_)
      | (refine use_hide (by assumption) ?_)
      | (refine And.intro (by omega) ?_)
      | fail)
    all_goals refine retOk_def (by simp [Try.f61, go_sem]) (by simp only [Try.f61, go_sem, *]; rfl) rfl ?_ ?_ ?_
    all_goals simp only [go_sem, *]
set_option maxHeartbeats 1000000 in
theorem Try.k62 (o : GPolicy) (ho : o.ok) (attempt : Int) (f : ByteArray) (spent seed j : Int) (hs : IntKind.i64.wrap spent = spent) (hj : 0 < seed → AV.Spec Try.prog 132 [.one (.int .i64 seed), .one (.int .i64 attempt), .one (.int .i64 (RT.raw o attempt)), .one (.int .i64 10)] [.one (.c (.int .i64 j))]) :
    AV.Spec Try.prog 62 [.agg o.cs, .one (.int .i64 attempt), .one (.str f), .one (.int .i64 spent), .one (.int .i64 seed)] [.one (.c (.int .i64 (RT.again o attempt f spent seed j).1)), .one (.c (.bool (RT.again o attempt f spent seed j).2))] := by
  have c1 := Try.k65 o ho
  have c2 := Try.k64 o (RT.ok_fatal ho) f
  have c3 := Try.k60 o ho attempt seed j hj
  have hw : RT.right o = true → ¬ spent < 0 → Hide (IntKind.i64.wrap (o.Total - spent) = o.Total - spent) := fun h h0 => ⟨by
    have := (RT.right_bnd h).tot
    have := (wrap_iff .i64 spent).1 hs; change -9223372036854775808 ≤ spent ∧ spent ≤ 9223372036854775807 at this
    rw [w64] <;> omega⟩
  clear ho hj hs
  rcases RT.again_cases o attempt f spent seed j with ⟨h1, hr⟩ | ⟨h1, h2, hr⟩ | ⟨h1, h2, h3, hr⟩ | ⟨h1, h2, h3, h4, hr⟩ | ⟨h1, h2, h3, h4, h5, hr⟩ | ⟨h1, h2, h3, h4, h5, h6, h7, hr⟩ | ⟨h1, h2, h3, h4, h5, h6 | ⟨h6, h7⟩, h8, h9, hr⟩ | ⟨h1, h2, h3, h4, h5, h6 | ⟨h6, h7⟩, h8 | ⟨h8, h9⟩, hr⟩
  all_goals rw [hr]
  all_goals first
    | (have hw' := (hw (by assumption) (by assumption)).out; clear hw hr)
    | clear hw hr
  all_goals
    refine spec_of_body Try.func62 rfl rfl (by simp) (fun B w0 => ?_)
    repeat' (first
      | (refine seq_x fun M hM => ?_)
      | (refine awp_region (by kernel_rfl) ?_)
      | (refine awp_draw Try.follow (by kernel_rfl) (by kernel_rfl) ?_)
      | (refine run_o fun K hK => ?_; simp only [go_sem, *])
      | (refine run_nil ?_; refine to_normal ?_)
      | (refine run_nil ?_)
      | (refine Hide.out hK _ ?_; clear hK K)
      | (refine Hide.out hM _ ?_; clear hM M)
      | (refine run_x rfl (by simp only [go_sem, *]; rfl) ?_)
      | (refine gcase_t ?_)
      | (refine gcase_b (fun hb => ?_) (fun hb => ?_) <;> first | (injection hb) | (subst hb) | (simp only [Bool.not_true, Bool.not_false, Bool.not_eq_true', Bool.not_eq_false', Bool.not_eq_true, Bool.not_eq_false, decide_eq_true_eq, decide_eq_false_iff_not] at hb) | skip)
      | (refine fun (K : Out → Prop) hK => ?_; simp only [go_sem, *])
      | (refine fun (b : Bool) (hT : _ → b = false) => ?_)
      | (refine awp_cond _ (by simp only [go_sem, *]; rfl) (fun hb => ?_) (fun hb => ?_) <;> first | (injection hb) | (subst hb) | (simp only [Bool.not_true, Bool.not_false, Bool.not_eq_true', Bool.not_eq_false', Bool.not_eq_true, Bool.not_eq_false, decide_eq_true_eq, decide_eq_false_iff_not] at hb) | skip)
      | (refine draw_o fun K hK => ?_; simp only [go_sem, *])
      | (refine draw_nil ?_; refine to_normal ?_)
      | (refine draw_nil ?_)
      | (refine Hide.out hK _ dyn_v ?_; clear hK K)
      | (refine Hide.out hK _ dyn_m ?_; clear hK K)
      | (refine Hide.out hK _ dyn_b ?_; clear hK K)
      | (refine Hide.out hK _ dyn_p ?_; clear hK K)
      | (refine Hide.out hK _ dyn_s ?_; clear hK K)
      | (refine Hide.out hK _ dyn_a ?_; clear hK K)
      | (refine Hide.out hK _ (dyn_c (Nat.le_of_ble_eq_true rfl)) ?_; clear hK K)
      | (refine draw_x rfl (by simp only [go_sem, *]; rfl) ?_)
      | (refine ⟨_, c1, [], .inl rfl, ?_⟩; simp only [go_sem, *])
      | (refine ⟨_, c1, [], .inr ⟨rfl, flat_of rfl⟩, ?_⟩; simp only [go_sem, *])
      | (refine ⟨_, c1, _, .inl rfl, ?_⟩; simp only [go_sem, *])
      | (refine ⟨_, c2, [], .inl rfl, ?_⟩; simp only [go_sem, *])
      | (refine ⟨_, c2, [], .inr ⟨rfl, flat_of rfl⟩, ?_⟩; simp only [go_sem, *])
      | (refine ⟨_, c2, _, .inl rfl, ?_⟩; simp only [go_sem, *])
      | (refine ⟨_, c3, [], .inl rfl, ?_⟩; simp only [go_sem, *])
      | (refine ⟨_, c3, [], .inr ⟨rfl, flat_of rfl⟩, ?_⟩; simp only [go_sem, *])
      | (refine ⟨_, c3, _, .inl rfl, ?_⟩; simp only [go_sem, *])
      | (refine awp_block ?_)
      | (refine awp_skip ?_)
      | (refine awp_exit ?_)
      | (refine awp_ret ?_)
      | (refine to_normal ?_)
      | (refine to_ret ?_)
      | (refine to_exit ?_)
      | (refine out_normal ?_)
      | (refine out_ret ?_)
      | (refine out_exit ?_)
      | (refine out_exit' rfl ?_)
      | (refine fin_ret ?_)
      | (refine fin_normal ?_)
      | (refine use_hide (by assumption) ?_)
      | (refine And.intro (by omega) ?_)
      | fail)
    all_goals refine retOk_def (by simp [Try.f62, go_sem]) (by simp only [Try.f62, go_sem, *]; rfl) rfl ?_ ?_ ?_
    all_goals simp only [go_sem, *]
end Go.Proofs
