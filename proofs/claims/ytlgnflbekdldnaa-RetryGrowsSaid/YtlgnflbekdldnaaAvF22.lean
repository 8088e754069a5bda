/- Layer 34: RetryGrows. -/
import Derived.Test.YtlgnflbekdldnaaAvF21
import Derived.Test.YtlgnflbekdldnaaAvQ3
set_option linter.unusedVariables false
set_option linter.unusedSimpArgs false
set_option maxRecDepth 4000
set_option maxHeartbeats 1000000
namespace Go.Proofs
open Go.AV Go.RowKit
attribute [local irreducible] dynOk Out.quiet Out.small AWp aRun dWalk aOut thenA inBlockA retOk retAVs AS.init Out.apply
theorem Try.k14 (o : GPolicy) (ho : o.ok) (n : Int) (hn : IntKind.u8.wrap n = n) : AV.Spec Try.prog 14 [.agg o.cs, .one (.int .u8 n)] [.one (.c (.bool true))] := by
  have c1 := Try.k57 o (RT.ok_fatal ho)
  have c2 := Try.k58
  have c3 := Try.k65 o ho
  have n0 : ∀ {p : Prop}, (0 : Int) < 0 → p := fun h => absurd h (by decide)
  have hn2 : 0 ≤ n ∧ n ≤ 255 := (wrap_iff .u8 n).1 hn
  have hr0 := Int.tmod_nonneg 60 hn2.1
  have hr1 : n.tmod 60 < 60 := Int.tmod_lt_of_pos n (by decide)
  have hw0 : IntKind.i64.wrap n = n := by rw [w64] <;> omega
  have hw1 : IntKind.i64.wrap (n.tmod 60) = n.tmod 60 := by rw [w64] <;> omega
  obtain ⟨k, hk⟩ : ∃ k, 1 + n.tmod 60 = k := ⟨_, rfl⟩
  have hw2 : IntKind.i64.wrap (1 + n.tmod 60) = k := by rw [hk, w64] <;> omega
  have hw3 : IntKind.i64.wrap (k + 1) = k + 1 := by rw [w64] <;> omega
  have hk1 : 1 ≤ k := by omega
  cases hr : RT.right o
  · rw [hr] at c3
    clear ho hn hn2 hk hw2 hw3 hk1 hr0 hr1 hw0 hw1
    cases hl : RT.large o
    all_goals
      refine spec_of_body Try.func14 rfl rfl (by simp) (fun B w0 => ?_)
      repeat' (first
        | (refine seq_x fun M hM => ?_)
        | (refine awp_region (by kernel_rfl) ?_)
        | (refine awp_draw Try.follow (by kernel_rfl) (by kernel_rfl) ?_)
        | (refine run_o fun K hK => ?_; simp only [go_sem, *])
        | (refine run_nil ?_; refine to_normal ?_)
        | (refine run_nil ?_)
        | (refine Hide.out hK _ ?_; clear hK K)
        | (refine Hide.out hM _ ?_; clear hM M)
        | (refine run_x rfl (by simp only [go_sem, *]; rfl) ?_)
        | (refine gcase_t ?_)
        | (refine gcase_b (fun hb => ?_) (fun hb => ?_) <;> first | (injection hb) | (subst hb) | (simp only [Bool.not_true, Bool.not_false, Bool.not_eq_true', Bool.not_eq_false', Bool.not_eq_true, Bool.not_eq_false, decide_eq_true_eq, decide_eq_false_iff_not] at hb) | skip)
        | (refine fun (K : Out → Prop) hK => ?_; simp only [go_sem, *])
        | (refine fun (b : Bool) (hT : _ → b = false) => ?_)
        | (refine awp_cond _ (by simp only [go_sem, *]; rfl) (fun hb => ?_) (fun hb => ?_) <;> first | (injection hb) | (subst hb) | (simp only [Bool.not_true, Bool.not_false, Bool.not_eq_true', Bool.not_eq_false', Bool.not_eq_true, Bool.not_eq_false, decide_eq_true_eq, decide_eq_false_iff_not] at hb) | skip)
        | (refine draw_o fun K hK => ?_; simp only [go_sem, *])
        | (refine draw_nil ?_; refine to_normal ?_)
        | (refine draw_nil ?_)
        | (refine Hide.out hK _ dyn_v ?_; clear hK K)
        | (refine Hide.out hK _ dyn_m ?_; clear hK K)
        | (refine Hide.out hK _ dyn_b ?_; clear hK K)
        | (refine Hide.out hK _ dyn_p ?_; clear hK K)
        | (refine Hide.out hK _ dyn_s ?_; clear hK K)
        | (refine Hide.out hK _ dyn_a ?_; clear hK K)
        | (refine Hide.out hK _ (dyn_c (Nat.le_of_ble_eq_true rfl)) ?_; clear hK K)
        | (refine draw_x rfl (by simp only [go_sem, *]; rfl) ?_)
        | (refine ⟨_, c1, [], .inl rfl, ?_⟩; simp only [go_sem, *])
        | (refine ⟨_, c1, [], .inr ⟨rfl, flat_of rfl⟩, ?_⟩; simp only [go_sem, *])
        | (refine ⟨_, c1, _, .inl rfl, ?_⟩; simp only [go_sem, *])
        | (refine ⟨_, c2, [], .inl rfl, ?_⟩; simp only [go_sem, *])
        | (refine ⟨_, c2, [], .inr ⟨rfl, flat_of rfl⟩, ?_⟩; simp only [go_sem, *])
        | (refine ⟨_, c2, _, .inl rfl, ?_⟩; simp only [go_sem, *])
        | (refine ⟨_, c3, [], .inl rfl, ?_⟩; simp only [go_sem, *])
        | (refine ⟨_, c3, [], .inr ⟨rfl, flat_of rfl⟩, ?_⟩; simp only [go_sem, *])
        | (refine ⟨_, c3, _, .inl rfl, ?_⟩; simp only [go_sem, *])
        | (refine awp_block ?_)
        | (refine awp_skip ?_)
        | (refine awp_exit ?_)
        | (refine awp_ret ?_)
        | (refine to_normal ?_)
        | (refine to_ret ?_)
        | (refine to_exit ?_)
        | (refine out_normal ?_)
        | (refine out_ret ?_)
        | (refine out_exit ?_)
        | (refine out_exit' rfl ?_)
        | (refine fin_ret ?_)
        | (refine fin_normal ?_)
        | (refine use_hide (by assumption) ?_)
        | (refine And.intro (by omega) ?_)
        | fail)
      all_goals refine retOk_def (by simp [Try.f14, go_sem]) (by simp only [Try.f14, go_sem, *]; rfl) rfl ?_ ?_ ?_
      all_goals simp only [go_sem, *]
  · have c4 := Try.k59 o ho k 0 0 n0
    have c5 := Try.k59 o ho (k + 1) 0 0 n0
    have c6 := Try.k66 o ho
    have hd : RT.deflt o = RT.fill o := by unfold RT.deflt; rw [if_pos hr]
    rw [hd] at c6
    have m1 := (RT.delay_most hr hk1).2
    have m2 := (RT.delay_most hr (k := k + 1) (by omega)).2
    have m3 : RT.delay o k 0 0 ≤ RT.delay o (k + 1) 0 0 ∨ ¬ RT.delay o k 0 0 ≤ RT.delay o (k + 1) 0 0 ∧ ¬ o.Coef = 0 ∧ o.Coef < 100 := by
      by_cases hc : ¬ o.Coef = 0 ∧ o.Coef < 100
      · by_cases hh : RT.delay o k 0 0 ≤ RT.delay o (k + 1) 0 0
        · exact .inl hh
        · exact .inr ⟨hh, hc⟩
      · exact .inl (RT.delay_grow hr hc hk1 (by omega))
    rw [hr] at c3
    generalize RT.fill o = p at c6 m1 m2
    clear ho hn hn2 hk hk1 hr0 hr1 n0 hd
    generalize RT.delay o k 0 0 = x at c4 m1 m3
    generalize RT.delay o (k + 1) 0 0 = y at c5 m2 m3
    cases hl : RT.large o
    all_goals rcases m3 with m3 | ⟨m3, m4, m5⟩
    all_goals
      refine spec_of_body Try.func14 rfl rfl (by simp) (fun B w0 => ?_)
      repeat' (first
        | (refine seq_x fun M hM => ?_)
        | (refine awp_region (by kernel_rfl) ?_)
        | (refine awp_draw Try.follow (by kernel_rfl) (by kernel_rfl) ?_)
        | (refine run_o fun K hK => ?_; simp only [go_sem, *])
        | (refine run_nil ?_; refine to_normal ?_)
        | (refine run_nil ?_)
        | (refine Hide.out hK _ ?_; clear hK K)
        | (refine Hide.out hM _ ?_; clear hM M)
        | (refine run_x rfl (by simp only [go_sem, *]; rfl) ?_)
        | (refine gcase_t ?_)
        | (refine gcase_b (fun hb => ?_) (fun hb => ?_) <;> first | (injection hb) | (subst hb) | (simp only [Bool.not_true, Bool.not_false, Bool.not_eq_true', Bool.not_eq_false', Bool.not_eq_true, Bool.not_eq_false, decide_eq_true_eq, decide_eq_false_iff_not] at hb) | skip)
        | (refine fun (K : Out → Prop) hK => ?_; simp only [go_sem, *])
        | (refine fun (b : Bool) (hT : _ → b = false) => ?_)
        | (refine awp_cond _ (by simp only [go_sem, *]; rfl) (fun hb => ?_) (fun hb => ?_) <;> first | (injection hb) | (subst hb) | (simp only [Bool.not_true, Bool.not_false, Bool.not_eq_true', Bool.not_eq_false', Bool.not_eq_true, Bool.not_eq_false, decide_eq_true_eq, decide_eq_false_iff_not] at hb) | skip)
        | (refine draw_o fun K hK => ?_; simp only [go_sem, *])
        | (refine draw_nil ?_; refine to_normal ?_)
        | (refine draw_nil ?_)
        | (refine Hide.out hK _ dyn_v ?_; clear hK K)
        | (refine Hide.out hK _ dyn_m ?_; clear hK K)
        | (refine Hide.out hK _ dyn_b ?_; clear hK K)
        | (refine Hide.out hK _ dyn_p ?_; clear hK K)
        | (refine Hide.out hK _ dyn_s ?_; clear hK K)
        | (refine Hide.out hK _ dyn_a ?_; clear hK K)
        | (refine Hide.out hK _ (dyn_c (Nat.le_of_ble_eq_true rfl)) ?_; clear hK K)
        | (refine draw_x rfl (by simp only [go_sem, *]; rfl) ?_)
        | (refine ⟨_, c1, [], .inl rfl, ?_⟩; simp only [go_sem, *])
        | (refine ⟨_, c1, [], .inr ⟨rfl, flat_of rfl⟩, ?_⟩; simp only [go_sem, *])
        | (refine ⟨_, c1, _, .inl rfl, ?_⟩; simp only [go_sem, *])
        | (refine ⟨_, c2, [], .inl rfl, ?_⟩; simp only [go_sem, *])
        | (refine ⟨_, c2, [], .inr ⟨rfl, flat_of rfl⟩, ?_⟩; simp only [go_sem, *])
        | (refine ⟨_, c2, _, .inl rfl, ?_⟩; simp only [go_sem, *])
        | (refine ⟨_, c3, [], .inl rfl, ?_⟩; simp only [go_sem, *])
        | (refine ⟨_, c3, [], .inr ⟨rfl, flat_of rfl⟩, ?_⟩; simp only [go_sem, *])
        | (refine ⟨_, c3, _, .inl rfl, ?_⟩; simp only [go_sem, *])
        | (refine ⟨_, c4, [], .inl rfl, ?_⟩; simp only [go_sem, *])
        | (refine ⟨_, c4, [], .inr ⟨rfl, flat_of rfl⟩, ?_⟩; simp only [go_sem, *])
        | (refine ⟨_, c4, _, .inl rfl, ?_⟩; simp only [go_sem, *])
        | (refine ⟨_, c5, [], .inl rfl, ?_⟩; simp only [go_sem, *])
        | (refine ⟨_, c5, [], .inr ⟨rfl, flat_of rfl⟩, ?_⟩; simp only [go_sem, *])
        | (refine ⟨_, c5, _, .inl rfl, ?_⟩; simp only [go_sem, *])
        | (refine ⟨_, c6, [], .inl rfl, ?_⟩; simp only [go_sem, *])
        | (refine ⟨_, c6, [], .inr ⟨rfl, flat_of rfl⟩, ?_⟩; simp only [go_sem, *])
        | (refine ⟨_, c6, _, .inl rfl, ?_⟩; simp only [go_sem, *])
        | (refine awp_block ?_)
        | (refine awp_skip ?_)
        | (refine awp_exit ?_)
        | (refine awp_ret ?_)
        | (refine to_normal ?_)
        | (refine to_ret ?_)
        | (refine to_exit ?_)
        | (refine out_normal ?_)
        | (refine out_ret ?_)
        | (refine out_exit ?_)
        | (refine out_exit' rfl ?_)
        | (refine fin_ret ?_)
        | (refine fin_normal ?_)
        | (refine use_hide (by assumption) ?_)
        | (refine And.intro (by omega) ?_)
        | fail)
      all_goals refine retOk_def (by simp [Try.f14, go_sem]) (by simp only [Try.f14, go_sem, *]; rfl) rfl ?_ ?_ ?_
      all_goals simp only [go_sem, *]
end Go.Proofs
