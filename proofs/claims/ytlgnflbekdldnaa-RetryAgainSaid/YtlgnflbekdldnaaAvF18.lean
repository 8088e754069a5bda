/- The backoff. -/
import Derived.Test.YtlgnflbekdldnaaAvF17
set_option linter.unusedVariables false
set_option linter.unusedSimpArgs false
set_option maxRecDepth 4000
set_option maxHeartbeats 1000000
namespace Go.Proofs
open Go.AV Go.RowKit
attribute [local irreducible] dynOk Out.quiet Out.small AWp aRun dWalk aOut thenA inBlockA retOk retAVs AS.init Out.apply
theorem Try.k59 (o : GPolicy) (ho : o.ok) (attempt seed j : Int) (hj : 0 < seed → AV.Spec Try.prog 131 [.one (.int .i64 seed), .one (.int .i64 attempt), .one (.int .i64 (RT.raw o attempt)), .one (.int .i64 10)] [.one (.c (.int .i64 j))]) :
    AV.Spec Try.prog 59 [.agg o.cs, .one (.int .i64 attempt), .one (.int .i64 seed)] [.one (.c (.int .i64 (RT.delay o attempt seed j)))] := by
  have c1 := Try.k129 o ho
  clear ho
  by_cases ha : attempt < 1
  · have hd : RT.delay o attempt seed j = 0 := by unfold RT.delay; rw [if_pos (.inl ha)]
    clear hj
    refine spec_of_body Try.func59 rfl rfl (by simp) (fun B w0 => ?_)
    repeat' (first
      | (refine seq_x fun M hM => ?_)
      | (refine awp_region (by kernel_rfl) ?_)
      | (refine awp_draw Try.follow (by kernel_rfl) (by kernel_rfl) ?_)
      | (refine run_o fun K hK => ?_; simp only [go_sem, *])
      | (refine run_nil ?_; refine to_normal ?_)
      | (refine run_nil ?_)
      | (refine Hide.out hK _ ?_; clear hK K)
      | (refine Hide.out hM _ ?_; clear hM M)
      | (refine run_x rfl (by simp only [go_sem, *]; rfl) ?_)
      | (refine gcase_t ?_)
      | (refine gcase_b (fun hb => ?_) (fun hb => ?_) <;> first | (injection hb) | (subst hb) | (simp only [Bool.not_true, Bool.not_false, Bool.not_eq_true', Bool.not_eq_false', Bool.not_eq_true, Bool.not_eq_false, decide_eq_true_eq, decide_eq_false_iff_not] at hb) | skip)
      | (refine fun (K : Out → Prop) hK => ?_; simp only [go_sem, *])
      | (refine fun (b : Bool) (hT : _ → b = false) => ?_)
      | (refine awp_cond _ (by simp only [go_sem, *]; rfl) (fun hb => ?_) (fun hb => ?_) <;> first | (injection hb) | (subst hb) | (simp only [Bool.not_true, Bool.not_false, Bool.not_eq_true', Bool.not_eq_false', Bool.not_eq_true, Bool.not_eq_false, decide_eq_true_eq, decide_eq_false_iff_not] at hb) | skip)
      | (refine draw_o fun K hK => ?_; simp only [go_sem, *])
      | (refine draw_nil ?_; refine to_normal ?_)
      | (refine draw_nil ?_)
      | (refine Hide.out hK _ dyn_v ?_; clear hK K)
      | (refine Hide.out hK _ dyn_m ?_; clear hK K)
      | (refine Hide.out hK _ dyn_b ?_; clear hK K)
      | (refine Hide.out hK _ dyn_p ?_; clear hK K)
      | (refine Hide.out hK _ dyn_s ?_; clear hK K)
      | (refine Hide.out hK _ dyn_a ?_; clear hK K)
      | (refine Hide.out hK _ (dyn_c (Nat.le_of_ble_eq_true rfl)) ?_; clear hK K)
      | (refine draw_x rfl (by simp only [go_sem, *]; rfl) ?_)
      | (refine ⟨_, c1, [], .inl rfl, ?_⟩; simp only [go_sem, *])
      | (refine ⟨_, c1, [], .inr ⟨rfl, flat_of rfl⟩, ?_⟩; simp only [go_sem, *])
      | (refine ⟨_, c1, _, .inl rfl, ?_⟩; simp only [go_sem, *])
      | (refine awp_block ?_)
      | (refine awp_skip ?_)
      | (refine awp_exit ?_)
      | (refine awp_ret ?_)
      | (refine to_normal ?_)
      | (refine to_ret ?_)
      | (refine to_exit ?_)
      | (refine out_normal ?_)
      | (refine out_ret ?_)
      | (refine out_exit ?_)
      | (refine out_exit' rfl ?_)
      | (refine fin_ret ?_)
      | (refine fin_normal ?_)
      | (refine use_hide (by assumption) ?_)
      | (refine And.intro (by omega) ?_)
      | fail)
    all_goals refine retOk_def (by simp [Try.f59, go_sem]) (by simp only [Try.f59, go_sem, *]; rfl) rfl ?_ ?_ ?_
    all_goals simp only [go_sem, *]
  by_cases hr : RT.right o = true
  case neg =>
    have hr' : RT.right o = false := by simpa using hr
    have hd : RT.delay o attempt seed j = 0 := by unfold RT.delay; rw [if_pos (.inr hr')]
    clear hj
    rw [hr'] at c1
    refine spec_of_body Try.func59 rfl rfl (by simp) (fun B w0 => ?_)
    repeat' (first
      | (refine seq_x fun M hM => ?_)
      | (refine awp_region (by kernel_rfl) ?_)
      | (refine awp_draw Try.follow (by kernel_rfl) (by kernel_rfl) ?_)
      | (refine run_o fun K hK => ?_; simp only [go_sem, *])
      | (refine run_nil ?_; refine to_normal ?_)
      | (refine run_nil ?_)
      | (refine Hide.out hK _ ?_; clear hK K)
      | (refine Hide.out hM _ ?_; clear hM M)
      | (refine run_x rfl (by simp only [go_sem, *]; rfl) ?_)
      | (refine gcase_t ?_)
      | (refine gcase_b (fun hb => ?_) (fun hb => ?_) <;> first | (injection hb) | (subst hb) | (simp only [Bool.not_true, Bool.not_false, Bool.not_eq_true', Bool.not_eq_false', Bool.not_eq_true, Bool.not_eq_false, decide_eq_true_eq, decide_eq_false_iff_not] at hb) | skip)
      | (refine fun (K : Out → Prop) hK => ?_; simp only [go_sem, *])
      | (refine fun (b : Bool) (hT : _ → b = false) => ?_)
      | (refine awp_cond _ (by simp only [go_sem, *]; rfl) (fun hb => ?_) (fun hb => ?_) <;> first | (injection hb) | (subst hb) | (simp only [Bool.not_true, Bool.not_false, Bool.not_eq_true', Bool.not_eq_false', Bool.not_eq_true, Bool.not_eq_false, decide_eq_true_eq, decide_eq_false_iff_not] at hb) | skip)
      | (refine draw_o fun K hK => ?_; simp only [go_sem, *])
      | (refine draw_nil ?_; refine to_normal ?_)
      | (refine draw_nil ?_)
      | (refine Hide.out hK _ dyn_v ?_; clear hK K)
      | (refine Hide.out hK _ dyn_m ?_; clear hK K)
      | (refine Hide.out hK _ dyn_b ?_; clear hK K)
      | (refine Hide.out hK _ dyn_p ?_; clear hK K)
      | (refine Hide.out hK _ dyn_s ?_; clear hK K)
      | (refine Hide.out hK _ dyn_a ?_; clear hK K)
      | (refine Hide.out hK _ (dyn_c (Nat.le_of_ble_eq_true rfl)) ?_; clear hK K)
      | (refine draw_x rfl (by simp only [go_sem, *]; rfl) ?_)
      | (refine ⟨_, c1, [], .inl rfl, ?_⟩; simp only [go_sem, *])
      | (refine ⟨_, c1, [], .inr ⟨rfl, flat_of rfl⟩, ?_⟩; simp only [go_sem, *])
      | (refine ⟨_, c1, _, .inl rfl, ?_⟩; simp only [go_sem, *])
      | (refine awp_block ?_)
      | (refine awp_skip ?_)
      | (refine awp_exit ?_)
      | (refine awp_ret ?_)
      | (refine to_normal ?_)
      | (refine to_ret ?_)
      | (refine to_exit ?_)
      | (refine out_normal ?_)
      | (refine out_ret ?_)
      | (refine out_exit ?_)
      | (refine out_exit' rfl ?_)
      | (refine fin_ret ?_)
      | (refine fin_normal ?_)
      | (refine use_hide (by assumption) ?_)
      | (refine And.intro (by omega) ?_)
      | fail)
    all_goals refine retOk_def (by simp [Try.f59, go_sem]) (by simp only [Try.f59, go_sem, *]; rfl) rfl ?_ ?_ ?_
    all_goals simp only [go_sem, *]
  have hd : RT.delay o attempt seed j = if 0 < seed then (if 1099511627776 < j then 1099511627776 else j) else RT.raw o attempt := by unfold RT.delay; rw [if_neg (by rintro (h | h); exact ha h; rw [hr] at h; cases h)]; rfl
  have c2 := Try.k130 o (RT.right_bnd hr)
  have hF := RT.fill_fil (RT.right_bnd hr)
  rw [hr] at c1
  have hraw : RT.raw o attempt = RT.it (RT.fill o).Coef (RT.fill o).Most (RT.rounds attempt) (if (RT.fill o).Most < (RT.fill o).First then (RT.fill o).Most else (RT.fill o).First) := rfl
  have hN := RT.rounds_wrap ha
  have hN9 : RT.rounds attempt ≤ 1000 := by unfold RT.rounds RT.mn; split <;> omega
  generalize RT.fill o = p at c2 hF hraw
  generalize RT.rounds attempt = N at hN hraw hN9
  generalize RT.raw o attempt = R at hj hd hraw
  have hR : Hide (RT.it p.Coef p.Most (N - 0) (if p.Most < p.First then p.Most else p.First) = R) := ⟨hraw.symm⟩
  have hb0 : Hide (0 ≤ (if p.Most < p.First then p.Most else p.First) ∧ (if p.Most < p.First then p.Most else p.First) ≤ 1099511627776) := ⟨by have := hF.fst; have := hF.most; split <;> omega⟩
  clear hraw
  refine spec_of_body Try.func59 rfl rfl (by simp) (fun B w0 => ?_)
  repeat' (first
    | (refine seq_x fun M hM => ?_)
    | (refine awp_region (by kernel_rfl) ?_)
    | (refine awp_draw Try.follow (by kernel_rfl) (by kernel_rfl) ?_)
    | (refine run_o fun K hK => ?_; simp only [go_sem, *])
    | (refine run_nil ?_; refine to_normal ?_)
    | (refine run_nil ?_)
    | (refine Hide.out hK _ ?_; clear hK K)
    | (refine Hide.out hM _ ?_; clear hM M)
    | (refine run_x rfl (by simp only [go_sem, *]; rfl) ?_)
    | (refine gcase_t ?_)
    | (refine gcase_b (fun hb => ?_) (fun hb => ?_) <;> first | (injection hb) | (subst hb) | (simp only [Bool.not_true, Bool.not_false, Bool.not_eq_true', Bool.not_eq_false', Bool.not_eq_true, Bool.not_eq_false, decide_eq_true_eq, decide_eq_false_iff_not] at hb) | skip)
    | (refine fun (K : Out → Prop) hK => ?_; simp only [go_sem, *])
    | (refine fun (b : Bool) (hT : _ → b = false) => ?_)
    | (refine awp_cond _ (by simp only [go_sem, *]; rfl) (fun hb => ?_) (fun hb => ?_) <;> first | (injection hb) | (subst hb) | (simp only [Bool.not_true, Bool.not_false, Bool.not_eq_true', Bool.not_eq_false', Bool.not_eq_true, Bool.not_eq_false, decide_eq_true_eq, decide_eq_false_iff_not] at hb) | skip)
    | (refine draw_o fun K hK => ?_; simp only [go_sem, *])
    | (refine draw_nil ?_; refine to_normal ?_)
    | (refine draw_nil ?_)
    | (refine Hide.out hK _ dyn_v ?_; clear hK K)
    | (refine Hide.out hK _ dyn_m ?_; clear hK K)
    | (refine Hide.out hK _ dyn_b ?_; clear hK K)
    | (refine Hide.out hK _ dyn_p ?_; clear hK K)
    | (refine Hide.out hK _ dyn_s ?_; clear hK K)
    | (refine Hide.out hK _ dyn_a ?_; clear hK K)
    | (refine Hide.out hK _ (dyn_c (Nat.le_of_ble_eq_true rfl)) ?_; clear hK K)
    | (refine draw_x rfl (by simp only [go_sem, *]; rfl) ?_)
    | (refine ⟨_, c1, [], .inl rfl, ?_⟩; simp only [go_sem, *])
    | (refine ⟨_, c1, [], .inr ⟨rfl, flat_of rfl⟩, ?_⟩; simp only [go_sem, *])
    | (refine ⟨_, c1, _, .inl rfl, ?_⟩; simp only [go_sem, *])
    | (refine ⟨_, c2, [], .inl rfl, ?_⟩; simp only [go_sem, *])
    | (refine ⟨_, c2, [], .inr ⟨rfl, flat_of rfl⟩, ?_⟩; simp only [go_sem, *])
    | (refine ⟨_, c2, _, .inl rfl, ?_⟩; simp only [go_sem, *])
    | (refine awp_block ?_)
    | (refine awp_skip ?_)
    | (refine awp_exit ?_)
    | (refine awp_ret ?_)
    | (refine to_normal ?_)
    | (refine to_ret ?_)
    | (refine to_exit ?_)
    | (refine out_normal ?_)
    | (refine out_ret ?_)
    | (refine out_exit ?_)
    | (refine out_exit' rfl ?_)
    | (refine fin_ret ?_)
    | (refine fin_normal ?_)
    | (refine use_hide (by assumption) ?_)
    | (refine And.intro (by omega) ?_)
    | fail)
  refine awp_loop_r (fun n s => ∃ (k : Nat) (x : Int), n = N - k ∧ k ≤ N ∧ Hide (0 ≤ x ∧ x ≤ 1099511627776) ∧ Hide (RT.it p.Coef p.Most (N - k) x = R) ∧ s.t 1 = .one (.c (.int .i64 attempt)) ∧ s.t 2 = .one (.c (.int .i64 seed)) ∧ s.t 7 = .one (.ptr 7000 0 0) ∧ s.H 7000 0 = some (.box (p.cs.map A.c)) ∧ s.t 8 = .one (.c (.int .i64 x)) ∧ s.t 26 = .one (.c (.int .i64 (N : Nat))) ∧ s.t 27 = .one (.c (.int .i64 (k : Nat)))) N
    ⟨_, ref_refl, 0, _, rfl, Nat.zero_le _, hb0, hR, by simp only [go_sem, *], by simp only [go_sem, *], by simp only [go_sem, *], by simp only [go_sem, *], by simp only [go_sem, *], by simp only [go_sem, *], by simp only [go_sem, *]; rfl⟩ ?_
  clear hb0 hR
  rintro n s ⟨k, x, hn', hk, hb, hR, h1, h2, h7, hH, h8, h26, h27⟩
  have hw : IntKind.i64.wrap ((k : Int) + 1) = ((k + 1 : Nat) : Int) := by rw [w64] <;> omega
  by_cases hlt : k < N
  · obtain ⟨y, hy⟩ : ∃ y, (if p.Most < (x * p.Coef).tdiv 100 then p.Most else (x * p.Coef).tdiv 100) = y := ⟨_, rfl⟩
    have hst : RT.step p.Coef p.Most x = y := hy
    have hp := RT.prod_bnd hF hb.out
    have hw1 : IntKind.i64.wrap (x * p.Coef) = x * p.Coef := by rw [w64] <;> omega
    have hw2 : IntKind.i64.wrap ((x * p.Coef).tdiv 100) = (x * p.Coef).tdiv 100 := by
      have := Int.tdiv_nonneg hp.1 (by decide : (0 : Int) ≤ 100)
      have h3 : (x * p.Coef).tdiv 100 ≤ x * p.Coef := Int.tdiv_le_self _ hp.1
      rw [w64] <;> omega
    have hyb : Hide (0 ≤ y ∧ y ≤ 1099511627776) := ⟨by have := RT.step_bnd hF hb.out; rw [hst] at this; exact ⟨this.1, this.2.1⟩⟩
    have hR1 : Hide (RT.it p.Coef p.Most (N - (k + 1)) y = R) := ⟨by have := hR.out; rw [show N - k = (N - (k + 1)) + 1 by omega, RT.it, hst] at this; exact this⟩
    by_cases hyx : y = x
    · have hRx : R = x := by have := hR.out; rw [RT.it_fix (hst.trans hyx)] at this; exact this.symm
      clear hst hp hR1 hb hR hyb
      subst hyx
      subst hRx
      by_cases hs : 0 < seed
      · have c3 := hj hs
        clear hj
        rw [if_pos hs] at hd
        repeat' (first
          | (refine seq_x fun M hM => ?_)
          | (refine awp_region (by kernel_rfl) ?_)
          | (refine awp_draw Try.follow (by kernel_rfl) (by kernel_rfl) ?_)
          | (refine run_o fun K hK => ?_; simp only [go_sem, *])
          | (refine run_nil ?_; refine to_normal ?_)
          | (refine run_nil ?_)
          | (refine Hide.out hK _ ?_; clear hK K)
          | (refine Hide.out hM _ ?_; clear hM M)
          | (refine run_x rfl (by simp only [go_sem, *]; rfl) ?_)
          | (refine gcase_t ?_)
          | (refine gcase_b (fun hb => ?_) (fun hb => ?_) <;> first | (injection hb) | (subst hb) | (simp only [Bool.not_true, Bool.not_false, Bool.not_eq_true', Bool.not_eq_false', Bool.not_eq_true, Bool.not_eq_false, decide_eq_true_eq, decide_eq_false_iff_not] at hb) | skip)
          | (refine fun (K : Out → Prop) hK => ?_; simp only [go_sem, *])
          | (refine fun (b : Bool) (hT : _ → b = false) => ?_)
          | (refine awp_cond _ (by simp only [go_sem, *]; rfl) (fun hb => ?_) (fun hb => ?_) <;> first | (injection hb) | (subst hb) | (simp only [Bool.not_true, Bool.not_false, Bool.not_eq_true', Bool.not_eq_false', Bool.not_eq_true, Bool.not_eq_false, decide_eq_true_eq, decide_eq_false_iff_not] at hb) | skip)
          | (refine draw_o fun K hK => ?_; simp only [go_sem, *])
          | (refine draw_nil ?_; refine to_normal ?_)
          | (refine draw_nil ?_)
          | (refine Hide.out hK _ dyn_v ?_; clear hK K)
          | (refine Hide.out hK _ dyn_m ?_; clear hK K)
          | (refine Hide.out hK _ dyn_b ?_; clear hK K)
          | (refine Hide.out hK _ dyn_p ?_; clear hK K)
          | (refine Hide.out hK _ dyn_s ?_; clear hK K)
          | (refine Hide.out hK _ dyn_a ?_; clear hK K)
          | (refine Hide.out hK _ (dyn_c (Nat.le_of_ble_eq_true rfl)) ?_; clear hK K)
          | (refine draw_x rfl (by simp only [go_sem, *]; rfl) ?_)
          | (refine ⟨_, c3, [], .inl rfl, ?_⟩; simp only [go_sem, *])
          | (refine ⟨_, c3, [], .inr ⟨rfl, flat_of rfl⟩, ?_⟩; simp only [go_sem, *])
          | (refine ⟨_, c3, _, .inl rfl, ?_⟩; simp only [go_sem, *])
          | (refine awp_block ?_)
          | (refine awp_skip ?_)
          | (refine awp_exit ?_)
          | (refine awp_ret ?_)
          | (refine to_normal ?_)
          | (refine to_ret ?_)
          | (refine to_exit ?_)
          | (refine out_normal ?_)
          | (refine out_ret ?_)
          | (refine out_exit ?_)
          | (refine out_exit' rfl ?_)
          | (refine fin_ret ?_)
          | (refine fin_normal ?_)
          | (refine use_hide (by assumption) ?_)
          | (refine And.intro (by omega) ?_)
          | fail)
        all_goals refine retOk_def (by simp [Try.f59, go_sem]) (by simp only [Try.f59, go_sem, *]; rfl) rfl ?_ ?_ ?_
        all_goals simp only [go_sem, *]
      · clear hj
        rw [if_neg hs] at hd
        repeat' (first
          | (refine seq_x fun M hM => ?_)
          | (refine awp_region (by kernel_rfl) ?_)
          | (refine awp_draw Try.follow (by kernel_rfl) (by kernel_rfl) ?_)
          | (refine run_o fun K hK => ?_; simp only [go_sem, *])
          | (refine run_nil ?_; refine to_normal ?_)
          | (refine run_nil ?_)
          | (refine Hide.out hK _ ?_; clear hK K)
          | (refine Hide.out hM _ ?_; clear hM M)
          | (refine run_x rfl (by simp only [go_sem, *]; rfl) ?_)
          | (refine gcase_t ?_)
          | (refine gcase_b (fun hb => ?_) (fun hb => ?_) <;> first | (injection hb) | (subst hb) | (simp only [Bool.not_true, Bool.not_false, Bool.not_eq_true', Bool.not_eq_false', Bool.not_eq_true, Bool.not_eq_false, decide_eq_true_eq, decide_eq_false_iff_not] at hb) | skip)
          | (refine fun (K : Out → Prop) hK => ?_; simp only [go_sem, *])
          | (refine fun (b : Bool) (hT : _ → b = false) => ?_)
          | (refine awp_cond _ (by simp only [go_sem, *]; rfl) (fun hb => ?_) (fun hb => ?_) <;> first | (injection hb) | (subst hb) | (simp only [Bool.not_true, Bool.not_false, Bool.not_eq_true', Bool.not_eq_false', Bool.not_eq_true, Bool.not_eq_false, decide_eq_true_eq, decide_eq_false_iff_not] at hb) | skip)
          | (refine draw_o fun K hK => ?_; simp only [go_sem, *])
          | (refine draw_nil ?_; refine to_normal ?_)
          | (refine draw_nil ?_)
          | (refine Hide.out hK _ dyn_v ?_; clear hK K)
          | (refine Hide.out hK _ dyn_m ?_; clear hK K)
          | (refine Hide.out hK _ dyn_b ?_; clear hK K)
          | (refine Hide.out hK _ dyn_p ?_; clear hK K)
          | (refine Hide.out hK _ dyn_s ?_; clear hK K)
          | (refine Hide.out hK _ dyn_a ?_; clear hK K)
          | (refine Hide.out hK _ (dyn_c (Nat.le_of_ble_eq_true rfl)) ?_; clear hK K)
          | (refine draw_x rfl (by simp only [go_sem, *]; rfl) ?_)
          | (refine awp_block ?_)
          | (refine awp_skip ?_)
          | (refine awp_exit ?_)
          | (refine awp_ret ?_)
          | (refine to_normal ?_)
          | (refine to_ret ?_)
          | (refine to_exit ?_)
          | (refine out_normal ?_)
          | (refine out_ret ?_)
          | (refine out_exit ?_)
          | (refine out_exit' rfl ?_)
          | (refine fin_ret ?_)
          | (refine fin_normal ?_)
          | (refine use_hide (by assumption) ?_)
          | (refine And.intro (by omega) ?_)
          | fail)
        all_goals refine retOk_def (by simp [Try.f59, go_sem]) (by simp only [Try.f59, go_sem, *]; rfl) rfl ?_ ?_ ?_
        all_goals simp only [go_sem, *]
    · clear hst hp hb hR hj hF
      repeat' (first
        | (refine seq_x fun M hM => ?_)
        | (refine awp_region (by kernel_rfl) ?_)
        | (refine awp_draw Try.follow (by kernel_rfl) (by kernel_rfl) ?_)
        | (refine run_o fun K hK => ?_; simp only [go_sem, *])
        | (refine run_nil ?_; refine to_normal ?_)
        | (refine run_nil ?_)
        | (refine Hide.out hK _ ?_; clear hK K)
        | (refine Hide.out hM _ ?_; clear hM M)
        | (refine run_x rfl (by simp only [go_sem, *]; rfl) ?_)
        | (refine gcase_t ?_)
        | (refine gcase_b (fun hb => ?_) (fun hb => ?_) <;> first | (injection hb) | (subst hb) | (simp only [Bool.not_true, Bool.not_false, Bool.not_eq_true', Bool.not_eq_false', Bool.not_eq_true, Bool.not_eq_false, decide_eq_true_eq, decide_eq_false_iff_not] at hb) | skip)
        | (refine fun (K : Out → Prop) hK => ?_; simp only [go_sem, *])
        | (refine fun (b : Bool) (hT : _ → b = false) => ?_)
        | (refine awp_cond _ (by simp only [go_sem, *]; rfl) (fun hb => ?_) (fun hb => ?_) <;> first | (injection hb) | (subst hb) | (simp only [Bool.not_true, Bool.not_false, Bool.not_eq_true', Bool.not_eq_false', Bool.not_eq_true, Bool.not_eq_false, decide_eq_true_eq, decide_eq_false_iff_not] at hb) | skip)
        | (refine draw_o fun K hK => ?_; simp only [go_sem, *])
        | (refine draw_nil ?_; refine to_normal ?_)
        | (refine draw_nil ?_)
        | (refine Hide.out hK _ dyn_v ?_; clear hK K)
        | (refine Hide.out hK _ dyn_m ?_; clear hK K)
        | (refine Hide.out hK _ dyn_b ?_; clear hK K)
        | (refine Hide.out hK _ dyn_p ?_; clear hK K)
        | (refine Hide.out hK _ dyn_s ?_; clear hK K)
        | (refine Hide.out hK _ dyn_a ?_; clear hK K)
        | (refine Hide.out hK _ (dyn_c (Nat.le_of_ble_eq_true rfl)) ?_; clear hK K)
        | (refine draw_x rfl (by simp only [go_sem, *]; rfl) ?_)
        | (refine awp_block ?_)
        | (refine awp_skip ?_)
        | (refine awp_exit ?_)
        | (refine awp_ret ?_)
        | (refine to_normal ?_)
        | (refine to_ret ?_)
        | (refine to_exit ?_)
        | (refine out_normal ?_)
        | (refine out_ret ?_)
        | (refine out_exit ?_)
        | (refine out_exit' rfl ?_)
        | (refine fin_ret ?_)
        | (refine fin_normal ?_)
        | (refine use_hide (by assumption) ?_)
        | (refine And.intro (by omega) ?_)
        | fail)
      refine ⟨_, N - (k + 1), ref_refl, by omega, k + 1, y, rfl, by omega, hyb, hR1, ?_, ?_, ?_, ?_, ?_, ?_, ?_⟩ <;> simp only [go_sem, *]
  · have hRx : R = x := by have := hR.out; rw [show N - k = 0 by omega] at this; exact this.symm
    clear hb hR
    subst hRx
    by_cases hs : 0 < seed
    · have c3 := hj hs
      clear hj
      rw [if_pos hs] at hd
      repeat' (first
        | (refine seq_x fun M hM => ?_)
        | (refine awp_region (by kernel_rfl) ?_)
        | (refine awp_draw Try.follow (by kernel_rfl) (by kernel_rfl) ?_)
        | (refine run_o fun K hK => ?_; simp only [go_sem, *])
        | (refine run_nil ?_; refine to_normal ?_)
        | (refine run_nil ?_)
        | (refine Hide.out hK _ ?_; clear hK K)
        | (refine Hide.out hM _ ?_; clear hM M)
        | (refine run_x rfl (by simp only [go_sem, *]; rfl) ?_)
        | (refine gcase_t ?_)
        | (refine gcase_b (fun hb => ?_) (fun hb => ?_) <;> first | (injection hb) | (subst hb) | (simp only [Bool.not_true, Bool.not_false, Bool.not_eq_true', Bool.not_eq_false', Bool.not_eq_true, Bool.not_eq_false, decide_eq_true_eq, decide_eq_false_iff_not] at hb) | skip)
        | (refine fun (K : Out → Prop) hK => ?_; simp only [go_sem, *])
        | (refine fun (b : Bool) (hT : _ → b = false) => ?_)
        | (refine awp_cond _ (by simp only [go_sem, *]; rfl) (fun hb => ?_) (fun hb => ?_) <;> first | (injection hb) | (subst hb) | (simp only [Bool.not_true, Bool.not_false, Bool.not_eq_true', Bool.not_eq_false', Bool.not_eq_true, Bool.not_eq_false, decide_eq_true_eq, decide_eq_false_iff_not] at hb) | skip)
        | (refine draw_o fun K hK => ?_; simp only [go_sem, *])
        | (refine draw_nil ?_; refine to_normal ?_)
        | (refine draw_nil ?_)
        | (refine Hide.out hK _ dyn_v ?_; clear hK K)
        | (refine Hide.out hK _ dyn_m ?_; clear hK K)
        | (refine Hide.out hK _ dyn_b ?_; clear hK K)
        | (refine Hide.out hK _ dyn_p ?_; clear hK K)
        | (refine Hide.out hK _ dyn_s ?_; clear hK K)
        | (refine Hide.out hK _ dyn_a ?_; clear hK K)
        | (refine Hide.out hK _ (dyn_c (Nat.le_of_ble_eq_true rfl)) ?_; clear hK K)
        | (refine draw_x rfl (by simp only [go_sem, *]; rfl) ?_)
        | (refine ⟨_, c3, [], .inl rfl, ?_⟩; simp only [go_sem, *])
        | (refine ⟨_, c3, [], .inr ⟨rfl, flat_of rfl⟩, ?_⟩; simp only [go_sem, *])
        | (refine ⟨_, c3, _, .inl rfl, ?_⟩; simp only [go_sem, *])
        | (refine awp_block ?_)
        | (refine awp_skip ?_)
        | (refine awp_exit ?_)
        | (refine awp_ret ?_)
        | (refine to_normal ?_)
        | (refine to_ret ?_)
        | (refine to_exit ?_)
        | (refine out_normal ?_)
        | (refine out_ret ?_)
        | (refine out_exit ?_)
        | (refine out_exit' rfl ?_)
        | (refine fin_ret ?_)
        | (refine fin_normal ?_)
        | (refine use_hide (by assumption) ?_)
        | (refine And.intro (by omega) ?_)
        | fail)
      all_goals refine retOk_def (by simp [Try.f59, go_sem]) (by simp only [Try.f59, go_sem, *]; rfl) rfl ?_ ?_ ?_
      all_goals simp only [go_sem, *]
    · clear hj
      rw [if_neg hs] at hd
      repeat' (first
        | (refine seq_x fun M hM => ?_)
        | (refine awp_region (by kernel_rfl) ?_)
        | (refine awp_draw Try.follow (by kernel_rfl) (by kernel_rfl) ?_)
        | (refine run_o fun K hK => ?_; simp only [go_sem, *])
        | (refine run_nil ?_; refine to_normal ?_)
        | (refine run_nil ?_)
        | (refine Hide.out hK _ ?_; clear hK K)
        | (refine Hide.out hM _ ?_; clear hM M)
        | (refine run_x rfl (by simp only [go_sem, *]; rfl) ?_)
        | (refine gcase_t ?_)
        | (refine gcase_b (fun hb => ?_) (fun hb => ?_) <;> first | (injection hb) | (subst hb) | (simp only [Bool.not_true, Bool.not_false, Bool.not_eq_true', Bool.not_eq_false', Bool.not_eq_true, Bool.not_eq_false, decide_eq_true_eq, decide_eq_false_iff_not] at hb) | skip)
        | (refine fun (K : Out → Prop) hK => ?_; simp only [go_sem, *])
        | (refine fun (b : Bool) (hT : _ → b = false) => ?_)
        | (refine awp_cond _ (by simp only [go_sem, *]; rfl) (fun hb => ?_) (fun hb => ?_) <;> first | (injection hb) | (subst hb) | (simp only [Bool.not_true, Bool.not_false, Bool.not_eq_true', Bool.not_eq_false', Bool.not_eq_true, Bool.not_eq_false, decide_eq_true_eq, decide_eq_false_iff_not] at hb) | skip)
        | (refine draw_o fun K hK => ?_; simp only [go_sem, *])
        | (refine draw_nil ?_; refine to_normal ?_)
        | (refine draw_nil ?_)
        | (refine Hide.out hK _ dyn_v ?_; clear hK K)
        | (refine Hide.out hK _ dyn_m ?_; clear hK K)
        | (refine Hide.out hK _ dyn_b ?_; clear hK K)
        | (refine Hide.out hK _ dyn_p ?_; clear hK K)
        | (refine Hide.out hK _ dyn_s ?_; clear hK K)
        | (refine Hide.out hK _ dyn_a ?_; clear hK K)
        | (refine Hide.out hK _ (dyn_c (Nat.le_of_ble_eq_true rfl)) ?_; clear hK K)
        | (refine draw_x rfl (by simp only [go_sem, *]; rfl) ?_)
        | (refine awp_block ?_)
        | (refine awp_skip ?_)
        | (refine awp_exit ?_)
        | (refine awp_ret ?_)
        | (refine to_normal ?_)
        | (refine to_ret ?_)
        | (refine to_exit ?_)
        | (refine out_normal ?_)
        | (refine out_ret ?_)
        | (refine out_exit ?_)
        | (refine out_exit' rfl ?_)
        | (refine fin_ret ?_)
        | (refine fin_normal ?_)
        | (refine use_hide (by assumption) ?_)
        | (refine And.intro (by omega) ?_)
        | fail)
      all_goals refine retOk_def (by simp [Try.f59, go_sem]) (by simp only [Try.f59, go_sem, *]; rfl) rfl ?_ ?_ ?_
      all_goals simp only [go_sem, *]
theorem Try.k60 (o : GPolicy) (ho : o.ok) (attempt seed j : Int) (hj : 0 < seed → AV.Spec Try.prog 132 [.one (.int .i64 seed), .one (.int .i64 attempt), .one (.int .i64 (RT.raw o attempt)), .one (.int .i64 10)] [.one (.c (.int .i64 j))]) :
    AV.Spec Try.prog 60 [.agg o.cs, .one (.int .i64 attempt), .one (.int .i64 seed)] [.one (.c (.int .i64 (RT.delay o attempt seed j)))] := by
  have c1 := Try.k65 o ho
  have c2 := Try.k68 o ho
  clear ho
  by_cases hr : RT.right o = true
  case neg =>
    have hr' : RT.right o = false := by simpa using hr
    have hd : RT.delay o attempt seed j = 0 := by unfold RT.delay; rw [if_pos (.inr hr')]
    clear hj c2
    rw [hr'] at c1
    refine spec_of_body Try.func60 rfl rfl (by simp) (fun B w0 => ?_)
    repeat' (first
      | (refine seq_x fun M hM => ?_)
      | (refine awp_region (by kernel_rfl) ?_)
      | (refine awp_draw Try.follow (by kernel_rfl) (by kernel_rfl) ?_)
      | (refine run_o fun K hK => ?_; simp only [go_sem, *])
      | (refine run_nil ?_; refine to_normal ?_)
      | (refine run_nil ?_)
      | (refine Hide.out hK _ ?_; clear hK K)
      | (refine Hide.out hM _ ?_; clear hM M)
      | (refine run_x rfl (by simp only [go_sem, *]; rfl) ?_)
      | (refine gcase_t ?_)
      | (refine gcase_b (fun hb => ?_) (fun hb => ?_) <;> first | (injection hb) | (subst hb) | (simp only [Bool.not_true, Bool.not_false, Bool.not_eq_true', Bool.not_eq_false', Bool.not_eq_true, Bool.not_eq_false, decide_eq_true_eq, decide_eq_false_iff_not] at hb) | skip)
      | (refine fun (K : Out → Prop) hK => ?_; simp only [go_sem, *])
      | (refine fun (b : Bool) (hT : _ → b = false) => ?_)
      | (refine awp_cond _ (by simp only [go_sem, *]; rfl) (fun hb => ?_) (fun hb => ?_) <;> first | (injection hb) | (subst hb) | (simp only [Bool.not_true, Bool.not_false, Bool.not_eq_true', Bool.not_eq_false', Bool.not_eq_true, Bool.not_eq_false, decide_eq_true_eq, decide_eq_false_iff_not] at hb) | skip)
      | (refine draw_o fun K hK => ?_; simp only [go_sem, *])
      | (refine draw_nil ?_; refine to_normal ?_)
      | (refine draw_nil ?_)
      | (refine Hide.out hK _ dyn_v ?_; clear hK K)
      | (refine Hide.out hK _ dyn_m ?_; clear hK K)
      | (refine Hide.out hK _ dyn_b ?_; clear hK K)
      | (refine Hide.out hK _ dyn_p ?_; clear hK K)
      | (refine Hide.out hK _ dyn_s ?_; clear hK K)
      | (refine Hide.out hK _ dyn_a ?_; clear hK K)
      | (refine Hide.out hK _ (dyn_c (Nat.le_of_ble_eq_true rfl)) ?_; clear hK K)
      | (refine draw_x rfl (by simp only [go_sem, *]; rfl) ?_)
      | (refine ⟨_, c1, [], .inl rfl, ?_⟩; simp only [go_sem, *])
      | (refine ⟨_, c1, [], .inr ⟨rfl, flat_of rfl⟩, ?_⟩; simp only [go_sem, *])
      | (refine ⟨_, c1, _, .inl rfl, ?_⟩; simp only [go_sem, *])
      | (refine awp_block ?_)
      | (refine awp_skip ?_)
      | (refine awp_exit ?_)
      | (refine awp_ret ?_)
      | (refine to_normal ?_)
      | (refine to_ret ?_)
      | (refine to_exit ?_)
      | (refine out_normal ?_)
      | (refine out_ret ?_)
      | (refine out_exit ?_)
      | (refine out_exit' rfl ?_)
      | (refine fin_ret ?_)
      | (refine fin_normal ?_)
      | (refine use_hide (by assumption) ?_)
      | (refine And.intro (by omega) ?_)
      | fail)
    all_goals refine retOk_def (by simp [Try.f60, go_sem]) (by simp only [Try.f60, go_sem, *]; rfl) rfl ?_ ?_ ?_
    all_goals simp only [go_sem, *]
  by_cases ha : attempt < 1
  · have hd : RT.delay o attempt seed j = 0 := by unfold RT.delay; rw [if_pos (.inl ha)]
    clear hj c2
    rw [hr] at c1
    refine spec_of_body Try.func60 rfl rfl (by simp) (fun B w0 => ?_)
    repeat' (first
      | (refine seq_x fun M hM => ?_)
      | (refine awp_region (by kernel_rfl) ?_)
      | (refine awp_draw Try.follow (by kernel_rfl) (by kernel_rfl) ?_)
      | (refine run_o fun K hK => ?_; simp only [go_sem, *])
      | (refine run_nil ?_; refine to_normal ?_)
      | (refine run_nil ?_)
      | (refine Hide.out hK _ ?_; clear hK K)
      | (refine Hide.out hM _ ?_; clear hM M)
      | (refine run_x rfl (by simp only [go_sem, *]; rfl) ?_)
      | (refine gcase_t ?_)
      | (refine gcase_b (fun hb => ?_) (fun hb => ?_) <;> first | (injection hb) | (subst hb) | (simp only [Bool.not_true, Bool.not_false, Bool.not_eq_true', Bool.not_eq_false', Bool.not_eq_true, Bool.not_eq_false, decide_eq_true_eq, decide_eq_false_iff_not] at hb) | skip)
      | (refine fun (K : Out → Prop) hK => ?_; simp only [go_sem, *])
      | (refine fun (b : Bool) (hT : _ → b = false) => ?_)
      | (refine awp_cond _ (by simp only [go_sem, *]; rfl) (fun hb => ?_) (fun hb => ?_) <;> first | (injection hb) | (subst hb) | (simp only [Bool.not_true, Bool.not_false, Bool.not_eq_true', Bool.not_eq_false', Bool.not_eq_true, Bool.not_eq_false, decide_eq_true_eq, decide_eq_false_iff_not] at hb) | skip)
      | (refine draw_o fun K hK => ?_; simp only [go_sem, *])
      | (refine draw_nil ?_; refine to_normal ?_)
      | (refine draw_nil ?_)
      | (refine Hide.out hK _ dyn_v ?_; clear hK K)
      | (refine Hide.out hK _ dyn_m ?_; clear hK K)
      | (refine Hide.out hK _ dyn_b ?_; clear hK K)
      | (refine Hide.out hK _ dyn_p ?_; clear hK K)
      | (refine Hide.out hK _ dyn_s ?_; clear hK K)
      | (refine Hide.out hK _ dyn_a ?_; clear hK K)
      | (refine Hide.out hK _ (dyn_c (Nat.le_of_ble_eq_true rfl)) ?_; clear hK K)
      | (refine draw_x rfl (by simp only [go_sem, *]; rfl) ?_)
      | (refine ⟨_, c1, [], .inl rfl, ?_⟩; simp only [go_sem, *])
      | (refine ⟨_, c1, [], .inr ⟨rfl, flat_of rfl⟩, ?_⟩; simp only [go_sem, *])
      | (refine ⟨_, c1, _, .inl rfl, ?_⟩; simp only [go_sem, *])
      | (refine awp_block ?_)
      | (refine awp_skip ?_)
      | (refine awp_exit ?_)
      | (refine awp_ret ?_)
      | (refine to_normal ?_)
      | (refine to_ret ?_)
      | (refine to_exit ?_)
      | (refine out_normal ?_)
      | (refine out_ret ?_)
      | (refine out_exit ?_)
      | (refine out_exit' rfl ?_)
      | (refine fin_ret ?_)
      | (refine fin_normal ?_)
      | (refine use_hide (by assumption) ?_)
      | (refine And.intro (by omega) ?_)
      | fail)
    all_goals refine retOk_def (by simp [Try.f60, go_sem]) (by simp only [Try.f60, go_sem, *]; rfl) rfl ?_ ?_ ?_
    all_goals simp only [go_sem, *]
  have hd : RT.delay o attempt seed j = if 0 < seed then (if 1099511627776 < j then 1099511627776 else j) else RT.raw o attempt := by unfold RT.delay; rw [if_neg (by rintro (h | h); exact ha h; rw [hr] at h; cases h)]; rfl
  have hdf : RT.deflt o = RT.fill o := by unfold RT.deflt; rw [if_pos hr]
  rw [hdf] at c2
  clear hdf
  have hF := RT.fill_fil (RT.right_bnd hr)
  rw [hr] at c1
  have hraw : RT.raw o attempt = RT.it (RT.fill o).Coef (RT.fill o).Most (RT.rounds attempt) (if (RT.fill o).Most < (RT.fill o).First then (RT.fill o).Most else (RT.fill o).First) := rfl
  have hN9 : RT.rounds attempt ≤ 999 ∧ ∀ k : Nat, k < RT.rounds attempt ↔ ((k : Int) + 2 ≤ attempt ∧ (k : Int) + 2 ≤ 1000) := by unfold RT.rounds RT.mn; split <;> exact ⟨by omega, fun k => by omega⟩
  generalize RT.fill o = p at c2 hF hraw
  generalize RT.rounds attempt = N at hraw hN9
  generalize RT.raw o attempt = R at hj hd hraw
  have hR : Hide (RT.it p.Coef p.Most (N - 0) (if p.Most < p.First then p.Most else p.First) = R) := ⟨hraw.symm⟩
  have hb0 : Hide (0 ≤ (if p.Most < p.First then p.Most else p.First) ∧ (if p.Most < p.First then p.Most else p.First) ≤ 1099511627776) := ⟨by have := hF.fst; have := hF.most; split <;> omega⟩
  clear hraw
  have hN' : Hide (N ≤ 999 ∧ ∀ k : Nat, k < N ↔ ((k : Int) + 2 ≤ attempt ∧ (k : Int) + 2 ≤ 1000)) := ⟨hN9⟩
  clear hN9
  refine spec_of_body Try.func60 rfl rfl (by simp) (fun B w0 => ?_)
  repeat' (first
    | (refine seq_x fun M hM => ?_)
    | (refine awp_region (by kernel_rfl) ?_)
    | (refine awp_draw Try.follow (by kernel_rfl) (by kernel_rfl) ?_)
    | (refine run_o fun K hK => ?_; simp only [go_sem, *])
    | (refine run_nil ?_; refine to_normal ?_)
    | (refine run_nil ?_)
    | (refine Hide.out hK _ ?_; clear hK K)
    | (refine Hide.out hM _ ?_; clear hM M)
    | (refine run_x rfl (by simp only [go_sem, *]; rfl) ?_)
    | (refine gcase_t ?_)
    | (refine gcase_b (fun hb => ?_) (fun hb => ?_) <;> first | (injection hb) | (subst hb) | (simp only [Bool.not_true, Bool.not_false, Bool.not_eq_true', Bool.not_eq_false', Bool.not_eq_true, Bool.not_eq_false, decide_eq_true_eq, decide_eq_false_iff_not] at hb) | skip)
    | (refine fun (K : Out → Prop) hK => ?_; simp only [go_sem, *])
    | (refine fun (b : Bool) (hT : _ → b = false) => ?_)
    | (refine awp_cond _ (by simp only [go_sem, *]; rfl) (fun hb => ?_) (fun hb => ?_) <;> first | (injection hb) | (subst hb) | (simp only [Bool.not_true, Bool.not_false, Bool.not_eq_true', Bool.not_eq_false', Bool.not_eq_true, Bool.not_eq_false, decide_eq_true_eq, decide_eq_false_iff_not] at hb) | skip)
    | (refine draw_o fun K hK => ?_; simp only [go_sem, *])
    | (refine draw_nil ?_; refine to_normal ?_)
    | (refine draw_nil ?_)
    | (refine Hide.out hK _ dyn_v ?_; clear hK K)
    | (refine Hide.out hK _ dyn_m ?_; clear hK K)
    | (refine Hide.out hK _ dyn_b ?_; clear hK K)
    | (refine Hide.out hK _ dyn_p ?_; clear hK K)
    | (refine Hide.out hK _ dyn_s ?_; clear hK K)
    | (refine Hide.out hK _ dyn_a ?_; clear hK K)
    | (refine Hide.out hK _ (dyn_c (Nat.le_of_ble_eq_true rfl)) ?_; clear hK K)
    | (refine draw_x rfl (by simp only [go_sem, *]; rfl) ?_)
    | (refine ⟨_, c1, [], .inl rfl, ?_⟩; simp only [go_sem, *])
    | (refine ⟨_, c1, [], .inr ⟨rfl, flat_of rfl⟩, ?_⟩; simp only [go_sem, *])
    | (refine ⟨_, c1, _, .inl rfl, ?_⟩; simp only [go_sem, *])
    | (refine ⟨_, c2, [], .inl rfl, ?_⟩; simp only [go_sem, *])
    | (refine ⟨_, c2, [], .inr ⟨rfl, flat_of rfl⟩, ?_⟩; simp only [go_sem, *])
    | (refine ⟨_, c2, _, .inl rfl, ?_⟩; simp only [go_sem, *])
    | (refine awp_block ?_)
    | (refine awp_skip ?_)
    | (refine awp_exit ?_)
    | (refine awp_ret ?_)
    | (refine to_normal ?_)
    | (refine to_ret ?_)
    | (refine to_exit ?_)
    | (refine out_normal ?_)
    | (refine out_ret ?_)
    | (refine out_exit ?_)
    | (refine out_exit' rfl ?_)
    | (refine fin_ret ?_)
    | (refine fin_normal ?_)
    | (refine use_hide (by assumption) ?_)
    | (refine And.intro (by omega) ?_)
    | fail)
  refine awp_loop_r (fun n s => ∃ (k : Nat) (x : Int), n = N - k ∧ k ≤ N ∧ Hide (0 ≤ x ∧ x ≤ 1099511627776) ∧ Hide (RT.it p.Coef p.Most (N - k) x = R) ∧ s.t 1 = .one (.c (.int .i64 attempt)) ∧ s.t 2 = .one (.c (.int .i64 seed)) ∧ s.t 7 = .one (.ptr 7000 0 0) ∧ s.H 7000 0 = some (.box (p.cs.map A.c)) ∧ s.t 8 = .one (.c (.int .i64 x)) ∧ s.t 9 = .one (.c (.int .i64 (k + 2 : Nat)))) N
    ⟨_, ref_refl, 0, _, rfl, Nat.zero_le _, hb0, hR, by simp only [go_sem, *], by simp only [go_sem, *], by simp only [go_sem, *], by simp only [go_sem, *], by simp only [go_sem, *], by simp only [go_sem, *]; rfl⟩ ?_
  clear hb0 hR
  rintro n s ⟨k, x, hn', hk, hb, hR, h1, h2, h7, hH, h8, h9⟩
  have hw : IntKind.i64.wrap (((k + 2 : Nat) : Int) + 1) = ((k + 1 + 2 : Nat) : Int) := by have := hN'.out.1; rw [w64] <;> omega
  by_cases hlt : k < N
  · obtain ⟨y, hy⟩ : ∃ y, (if p.Most < (x * p.Coef).tdiv 100 then p.Most else (x * p.Coef).tdiv 100) = y := ⟨_, rfl⟩
    have hst : RT.step p.Coef p.Most x = y := hy
    have hp := RT.prod_bnd hF hb.out
    have hw1 : IntKind.i64.wrap (x * p.Coef) = x * p.Coef := by rw [w64] <;> omega
    have hw2 : IntKind.i64.wrap ((x * p.Coef).tdiv 100) = (x * p.Coef).tdiv 100 := by
      have := Int.tdiv_nonneg hp.1 (by decide : (0 : Int) ≤ 100)
      have h3 : (x * p.Coef).tdiv 100 ≤ x * p.Coef := Int.tdiv_le_self _ hp.1
      rw [w64] <;> omega
    have hyb : Hide (0 ≤ y ∧ y ≤ 1099511627776) := ⟨by have := RT.step_bnd hF hb.out; rw [hst] at this; exact ⟨this.1, this.2.1⟩⟩
    have hR1 : Hide (RT.it p.Coef p.Most (N - (k + 1)) y = R) := ⟨by have := hR.out; rw [show N - k = (N - (k + 1)) + 1 by omega, RT.it, hst] at this; exact this⟩
    have g1 : ((k + 2 : Nat) : Int) ≤ attempt := by have := (hN'.out.2 k).1 hlt; omega
    have g2 : ((k + 2 : Nat) : Int) ≤ 1000 := by have := (hN'.out.2 k).1 hlt; omega
    clear hst hp hb hR hj hF
    repeat' (first
      | (refine seq_x fun M hM => ?_)
      | (refine awp_region (by kernel_rfl) ?_)
      | (refine awp_draw Try.follow (by kernel_rfl) (by kernel_rfl) ?_)
      | (refine run_o fun K hK => ?_; simp only [go_sem, *])
      | (refine run_nil ?_; refine to_normal ?_)
      | (refine run_nil ?_)
      | (refine Hide.out hK _ ?_; clear hK K)
      | (refine Hide.out hM _ ?_; clear hM M)
      | (refine run_x rfl (by simp only [go_sem, *]; rfl) ?_)
      | (refine gcase_t ?_)
      | (refine gcase_b (fun hb => ?_) (fun hb => ?_) <;> first | (injection hb) | (subst hb) | (simp only [Bool.not_true, Bool.not_false, Bool.not_eq_true', Bool.not_eq_false', Bool.not_eq_true, Bool.not_eq_false, decide_eq_true_eq, decide_eq_false_iff_not] at hb) | skip)
      | (refine fun (K : Out → Prop) hK => ?_; simp only [go_sem, *])
      | (refine fun (b : Bool) (hT : _ → b = false) => ?_)
      | (refine awp_cond _ (by simp only [go_sem, *]; rfl) (fun hb => ?_) (fun hb => ?_) <;> first | (injection hb) | (subst hb) | (simp only [Bool.not_true, Bool.not_false, Bool.not_eq_true', Bool.not_eq_false', Bool.not_eq_true, Bool.not_eq_false, decide_eq_true_eq, decide_eq_false_iff_not] at hb) | skip)
      | (refine draw_o fun K hK => ?_; simp only [go_sem, *])
      | (refine draw_nil ?_; refine to_normal ?_)
      | (refine draw_nil ?_)
      | (refine Hide.out hK _ dyn_v ?_; clear hK K)
      | (refine Hide.out hK _ dyn_m ?_; clear hK K)
      | (refine Hide.out hK _ dyn_b ?_; clear hK K)
      | (refine Hide.out hK _ dyn_p ?_; clear hK K)
      | (refine Hide.out hK _ dyn_s ?_; clear hK K)
      | (refine Hide.out hK _ dyn_a ?_; clear hK K)
      | (refine Hide.out hK _ (dyn_c (Nat.le_of_ble_eq_true rfl)) ?_; clear hK K)
      | (refine draw_x rfl (by simp only [go_sem, *]; rfl) ?_)
      | (refine awp_block ?_)
      | (refine awp_skip ?_)
      | (refine awp_exit ?_)
      | (refine awp_ret ?_)
      | (refine to_normal ?_)
      | (refine to_ret ?_)
      | (refine to_exit ?_)
      | (refine out_normal ?_)
      | (refine out_ret ?_)
      | (refine out_exit ?_)
      | (refine out_exit' rfl ?_)
      | (refine fin_ret ?_)
      | (refine fin_normal ?_)
      | (refine use_hide (by assumption) ?_)
      | (refine And.intro (by omega) ?_)
      | fail)
    refine ⟨_, N - (k + 1), ref_refl, by omega, k + 1, y, rfl, by omega, hyb, hR1, ?_, ?_, ?_, ?_, ?_, ?_⟩ <;> simp only [go_sem, *]
  · have hRx : R = x := by have := hR.out; rw [show N - k = 0 by omega] at this; exact this.symm
    have g0 : ¬ (((k + 2 : Nat) : Int) ≤ attempt) ∨ ((k + 2 : Nat) : Int) ≤ attempt ∧ ¬ ((k + 2 : Nat) : Int) ≤ 1000 := by
      have := mt (hN'.out.2 k).2 hlt
      omega
    clear hb hR
    subst hRx
    rcases g0 with g1 | ⟨g1, g2⟩
    all_goals
      by_cases hs : 0 < seed
      · have c3 := hj hs
        clear hj
        rw [if_pos hs] at hd
        repeat' (first
          | (refine seq_x fun M hM => ?_)
          | (refine awp_region (by kernel_rfl) ?_)
          | (refine awp_draw Try.follow (by kernel_rfl) (by kernel_rfl) ?_)
          | (refine run_o fun K hK => ?_; simp only [go_sem, *])
          | (refine run_nil ?_; refine to_normal ?_)
          | (refine run_nil ?_)
          | (refine Hide.out hK _ ?_; clear hK K)
          | (refine Hide.out hM _ ?_; clear hM M)
          | (refine run_x rfl (by simp only [go_sem, *]; rfl) ?_)
          | (refine gcase_t ?_)
          | (refine gcase_b (fun hb => ?_) (fun hb => ?_) <;> first | (injection hb) | (subst hb) | (simp only [Bool.not_true, Bool.not_false, Bool.not_eq_true', Bool.not_eq_false', Bool.not_eq_true, Bool.not_eq_false, decide_eq_true_eq, decide_eq_false_iff_not] at hb) | skip)
          | (refine fun (K : Out → Prop) hK => ?_; simp only [go_sem, *])
          | (refine fun (b : Bool) (hT : _ → b = false) => ?_)
          | (refine awp_cond _ (by simp only [go_sem, *]; rfl) (fun hb => ?_) (fun hb => ?_) <;> first | (injection hb) | (subst hb) | (simp only [Bool.not_true, Bool.not_false, Bool.not_eq_true', Bool.not_eq_false', Bool.not_eq_true, Bool.not_eq_false, decide_eq_true_eq, decide_eq_false_iff_not] at hb) | skip)
          | (refine draw_o fun K hK => ?_; simp only [go_sem, *])
          | (refine draw_nil ?_; refine to_normal ?_)
          | (refine draw_nil ?_)
          | (refine Hide.out hK _ dyn_v ?_; clear hK K)
          | (refine Hide.out hK _ dyn_m ?_; clear hK K)
          | (refine Hide.out hK _ dyn_b ?_; clear hK K)
          | (refine Hide.out hK _ dyn_p ?_; clear hK K)
          | (refine Hide.out hK _ dyn_s ?_; clear hK K)
          | (refine Hide.out hK _ dyn_a ?_; clear hK K)
          | (refine Hide.out hK _ (dyn_c (Nat.le_of_ble_eq_true rfl)) ?_; clear hK K)
          | (refine draw_x rfl (by simp only [go_sem, *]; rfl) ?_)
          | (refine ⟨_, c3, [], .inl rfl, ?_⟩; simp only [go_sem, *])
          | (refine ⟨_, c3, [], .inr ⟨rfl, flat_of rfl⟩, ?_⟩; simp only [go_sem, *])
          | (refine ⟨_, c3, _, .inl rfl, ?_⟩; simp only [go_sem, *])
          | (refine awp_block ?_)
          | (refine awp_skip ?_)
          | (refine awp_exit ?_)
          | (refine awp_ret ?_)
          | (refine to_normal ?_)
          | (refine to_ret ?_)
          | (refine to_exit ?_)
          | (refine out_normal ?_)
          | (refine out_ret ?_)
          | (refine out_exit ?_)
          | (refine out_exit' rfl ?_)
          | (refine fin_ret ?_)
          | (refine fin_normal ?_)
          | (refine use_hide (by assumption) ?_)
          | (refine And.intro (by omega) ?_)
          | fail)
        all_goals refine retOk_def (by simp [Try.f60, go_sem]) (by simp only [Try.f60, go_sem, *]; rfl) rfl ?_ ?_ ?_
        all_goals simp only [go_sem, *]
      · clear hj
        rw [if_neg hs] at hd
        repeat' (first
          | (refine seq_x fun M hM => ?_)
          | (refine awp_region (by kernel_rfl) ?_)
          | (refine awp_draw Try.follow (by kernel_rfl) (by kernel_rfl) ?_)
          | (refine run_o fun K hK => ?_; simp only [go_sem, *])
          | (refine run_nil ?_; refine to_normal ?_)
          | (refine run_nil ?_)
          | (refine Hide.out hK _ ?_; clear hK K)
          | (refine Hide.out hM _ ?_; clear hM M)
          | (refine run_x rfl (by simp only [go_sem, *]; rfl) ?_)
          | (refine gcase_t ?_)
          | (refine gcase_b (fun hb => ?_) (fun hb => ?_) <;> first | (injection hb) | (subst hb) | (simp only [Bool.not_true, Bool.not_false, Bool.not_eq_true', Bool.not_eq_false', Bool.not_eq_true, Bool.not_eq_false, decide_eq_true_eq, decide_eq_false_iff_not] at hb) | skip)
          | (refine fun (K : Out → Prop) hK => ?_; simp only [go_sem, *])
          | (refine fun (b : Bool) (hT : _ → b = false) => ?_)
          | (refine awp_cond _ (by simp only [go_sem, *]; rfl) (fun hb => ?_) (fun hb => ?_) <;> first | (injection hb) | (subst hb) | (simp only [Bool.not_true, Bool.not_false, Bool.not_eq_true', Bool.not_eq_false', Bool.not_eq_true, Bool.not_eq_false, decide_eq_true_eq, decide_eq_false_iff_not] at hb) | skip)
          | (refine draw_o fun K hK => ?_; simp only [go_sem, *])
          | (refine draw_nil ?_; refine to_normal ?_)
          | (refine draw_nil ?_)
          | (refine Hide.out hK _ dyn_v ?_; clear hK K)
          | (refine Hide.out hK _ dyn_m ?_; clear hK K)
          | (refine Hide.out hK _ dyn_b ?_; clear hK K)
          | (refine Hide.out hK _ dyn_p ?_; clear hK K)
          | (refine Hide.out hK _ dyn_s ?_; clear hK K)
          | (refine Hide.out hK _ dyn_a ?_; clear hK K)
          | (refine Hide.out hK _ (dyn_c (Nat.le_of_ble_eq_true rfl)) ?_; clear hK K)
          | (refine draw_x rfl (by simp only [go_sem, *]; rfl) ?_)
          | (refine awp_block ?_)
          | (refine awp_skip ?_)
          | (refine awp_exit ?_)
          | (refine awp_ret ?_)
          | (refine to_normal ?_)
          | (refine to_ret ?_)
          | (refine to_exit ?_)
          | (refine out_normal ?_)
          | (refine out_ret ?_)
          | (refine out_exit ?_)
          | (refine out_exit' rfl ?_)
          | (refine fin_ret ?_)
          | (refine fin_normal ?_)
          | (refine use_hide (by assumption) ?_)
          | (refine And.intro (by omega) ?_)
          | fail)
        all_goals refine retOk_def (by simp [Try.f60, go_sem]) (by simp only [Try.f60, go_sem, *]; rfl) rfl ?_ ?_ ?_
        all_goals simp only [go_sem, *]
end Go.Proofs
