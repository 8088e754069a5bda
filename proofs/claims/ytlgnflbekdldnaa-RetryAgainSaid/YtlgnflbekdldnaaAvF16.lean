/- Right policies, the document's answer. -/
import Derived.Test.YtlgnflbekdldnaaAvF14
set_option linter.unusedVariables false
set_option linter.unusedSimpArgs false
set_option maxRecDepth 4000
set_option maxHeartbeats 1000000
namespace Go.Proofs
open Go.AV Go.RowKit
attribute [local irreducible] dynOk Out.quiet Out.small AWp aRun dWalk aOut thenA inBlockA retOk retAVs AS.init Out.apply
theorem Try.k65 (o : GPolicy) (ho : o.ok) : AV.Spec Try.prog 65 [.agg o.cs] [.one (.c (.bool (RT.right o)))] := by
  have c1 := Try.k135 o.Queue ho.1
  have hfl : o.Fatal.length * 16 ≤ reachBytes := RT.ok_fatal ho
  have c2 := Try.k134
  rw [reach_eq] at hfl
  clear ho
  have hH : Hide (RT.right o = true ↔ (o.Queue = ⟨#[]⟩ ∨ RT.nameOk o.Queue = true) ∧ o.Fatal.length ≤ 64 ∧ (∀ n ∈ RT.times o, RT.rng n 1099511627776 = true) ∧ RT.rng o.Coef 10000 = true ∧ RT.rng o.Attempts 1000 = true ∧ o.Fatal.any RT.long = false) := ⟨RT.right_iff o⟩
  refine spec_of_body Try.func65 rfl rfl (by simp) (fun B w0 => ?_)
  repeat' (first
    | (refine seq_x fun M hM => ?_)
    | (refine awp_region (by kernel_rfl) ?_)
    | (refine awp_draw Try.follow (by kernel_rfl) (by kernel_rfl) ?_)
    | (refine run_o fun K hK => ?_; simp only [go_sem, *])
    | (refine run_nil ?_; refine to_normal ?_)
    | (refine run_nil ?_)
    | (refine Hide.out hK _ ?_; clear hK K)
    | (refine Hide.out hM _ ?_; clear hM M)
    | (refine run_x rfl (by simp only [go_sem, *]; rfl) ?_)
    | (refine gcase_t ?_)
    | (refine gcase_b (fun hb => ?_) (fun hb => ?_) <;> first | (injection hb) | (subst hb) | (simp only [Bool.not_true, Bool.not_false, Bool.not_eq_true', Bool.not_eq_false', Bool.not_eq_true, Bool.not_eq_false, decide_eq_true_eq, decide_eq_false_iff_not] at hb) | skip)
    | (refine fun (K : Out → Prop) hK => ?_; simp only [go_sem, *])
    | (refine fun (b : Bool) (hT : _ → b = false) => ?_)
    | (refine awp_cond _ (by simp only [go_sem, *]; rfl) (fun hb => ?_) (fun hb => ?_) <;> first | (injection hb) | (subst hb) | (simp only [Bool.not_true, Bool.not_false, Bool.not_eq_true', Bool.not_eq_false', Bool.not_eq_true, Bool.not_eq_false, decide_eq_true_eq, decide_eq_false_iff_not] at hb) | skip)
    | (refine draw_o fun K hK => ?_; simp only [go_sem, *])
    | (refine draw_nil ?_; refine to_normal ?_)
    | (refine draw_nil ?_)
    | (refine Hide.out hK _ dyn_v ?_; clear hK K)
    | (refine Hide.out hK _ dyn_m ?_; clear hK K)
    | (refine Hide.out hK _ dyn_b ?_; clear hK K)
    | (refine Hide.out hK _ dyn_p ?_; clear hK K)
    | (refine Hide.out hK _ dyn_s ?_; clear hK K)
    | (refine Hide.out hK _ dyn_a ?_; clear hK K)
    | (refine Hide.out hK _ (dyn_c (Nat.le_of_ble_eq_true rfl)) ?_; clear hK K)
    | (refine draw_x rfl (by simp only [go_sem, *]; rfl) ?_)
    | (refine awp_block ?_)
    | (refine awp_skip ?_)
    | (refine awp_exit ?_)
    | (refine awp_ret ?_)
    | (refine to_normal ?_)
    | (refine to_ret ?_)
    | (refine to_exit ?_)
    | (refine out_normal ?_)
    | (refine out_ret ?_)
    | (refine out_exit ?_)
    | (refine out_exit' rfl ?_)
    | (refine fin_ret ?_)
    | (refine fin_normal ?_)
    | (refine use_hide (by assumption) ?_)
    | (refine And.intro (by omega) ?_)
    | fail)
  refine awp_loop_r (fun n s => ∃ k : Nat, n = 6 - k ∧ k ≤ 6 ∧ Hide (∀ j (h : j < (RT.times o).length), j < k → RT.rng (RT.times o)[j] 1099511627776 = true) ∧ s.t 1 = .one (.ptr 1000 0 0) ∧ s.H 1000 0 = some (.box (o.cs.map A.c)) ∧ s.t 3 = .one (.own 18000 0) ∧ s.H 18000 0 = some (.arr 3 1 ((RT.times o).map intC)) ∧ s.t 4 = .one (.c (.int .i64 (k : Nat)))) 6
    ⟨_, ref_refl, 0, rfl, Nat.zero_le _, ⟨fun j h hj => absurd hj (Nat.not_lt_zero j)⟩, by simp only [go_sem, *], by simp only [go_sem, *], by simp only [go_sem, *], by simp only [go_sem, *]; rfl, by simp only [go_sem, *]; rfl⟩ ?_
  rintro n s ⟨k, hn', hk, hall, h1, hb, h32, hL, h34⟩
  have hw : IntKind.i64.wrap ((k : Int) + 1) = ((k + 1 : Nat) : Int) := by rw [w64] <;> omega
  have hlen : (RT.times o).length = 6 := rfl
  have hml : ((RT.times o).map intC).length = 6 := rfl
  by_cases hlt : k < 6
  · have hlt' : (k : Int) < 6 := by omega
    have hx : ((RT.times o).map intC).getD k [] = [C.int .i64 (RT.times o)[k]] := at_map intC (RT.times o) k (by omega)
    have hm : (RT.times o)[k] ∈ RT.times o := List.getElem_mem (by omega)
    have hN : RT.rng (RT.times o)[k] 1099511627776 = true → Hide (∀ j (h : j < (RT.times o).length), j < k + 1 → RT.rng (RT.times o)[j] 1099511627776 = true) := fun e => ⟨fun j h hj => (Nat.lt_succ_iff_lt_or_eq.1 hj).elim (hall.out j h) (fun e2 => by subst e2; exact e)⟩
    clear hall
    generalize (RT.times o)[k] = x at hx hm hN
    cases hr : RT.rng x 1099511627776
    · have hf : RT.right o = false := by
        cases h : RT.right o
        · rfl
        · have := (hH.out.1 h).2.2.1 x hm; rw [hr] at this; exact absurd this (by decide)
      clear hN
      repeat' (first
        | (refine seq_x fun M hM => ?_)
        | (refine awp_region (by kernel_rfl) ?_)
        | (refine awp_draw Try.follow (by kernel_rfl) (by kernel_rfl) ?_)
        | (refine run_o fun K hK => ?_; simp only [go_sem, *])
        | (refine run_nil ?_; refine to_normal ?_)
        | (refine run_nil ?_)
        | (refine Hide.out hK _ ?_; clear hK K)
        | (refine Hide.out hM _ ?_; clear hM M)
        | (refine run_x rfl (by simp only [go_sem, *]; rfl) ?_)
        | (refine gcase_t ?_)
        | (refine gcase_b (fun hb => ?_) (fun hb => ?_) <;> first | (injection hb) | (subst hb) | (simp only [Bool.not_true, Bool.not_false, Bool.not_eq_true', Bool.not_eq_false', Bool.not_eq_true, Bool.not_eq_false, decide_eq_true_eq, decide_eq_false_iff_not] at hb) | skip)
        | (refine fun (K : Out → Prop) hK => ?_; simp only [go_sem, *])
        | (refine fun (b : Bool) (hT : _ → b = false) => ?_)
        | (refine awp_cond _ (by simp only [go_sem, *]; rfl) (fun hb => ?_) (fun hb => ?_) <;> first | (injection hb) | (subst hb) | (simp only [Bool.not_true, Bool.not_false, Bool.not_eq_true', Bool.not_eq_false', Bool.not_eq_true, Bool.not_eq_false, decide_eq_true_eq, decide_eq_false_iff_not] at hb) | skip)
        | (refine draw_o fun K hK => ?_; simp only [go_sem, *])
        | (refine draw_nil ?_; refine to_normal ?_)
        | (refine draw_nil ?_)
        | (refine Hide.out hK _ dyn_v ?_; clear hK K)
        | (refine Hide.out hK _ dyn_m ?_; clear hK K)
        | (refine Hide.out hK _ dyn_b ?_; clear hK K)
        | (refine Hide.out hK _ dyn_p ?_; clear hK K)
        | (refine Hide.out hK _ dyn_s ?_; clear hK K)
        | (refine Hide.out hK _ dyn_a ?_; clear hK K)
        | (refine Hide.out hK _ (dyn_c (Nat.le_of_ble_eq_true rfl)) ?_; clear hK K)
        | (refine draw_x rfl (by simp only [go_sem, *]; rfl) ?_)
        | (refine ⟨_, c2 _ _, [], .inl rfl, ?_⟩; simp only [go_sem, *])
        | (refine ⟨_, c2 _ _, [], .inr ⟨rfl, flat_of rfl⟩, ?_⟩; simp only [go_sem, *])
        | (refine ⟨_, c2 _ _, _, .inl rfl, ?_⟩; simp only [go_sem, *])
        | (refine awp_block ?_)
        | (refine awp_skip ?_)
        | (refine awp_exit ?_)
        | (refine awp_ret ?_)
        | (refine to_normal ?_)
        | (refine to_ret ?_)
        | (refine to_exit ?_)
        | (refine out_normal ?_)
        | (refine out_ret ?_)
        | (refine out_exit ?_)
        | (refine out_exit' rfl ?_)
        | (refine fin_ret ?_)
        | (refine fin_normal ?_)
        | (refine use_hide (by assumption) ?_)
        | (refine And.intro (by omega) ?_)
        | fail)
      all_goals refine retOk_def (by simp [Try.f65, go_sem]) (by simp only [Try.f65, go_sem, *]; rfl) rfl ?_ ?_ ?_
      all_goals simp only [go_sem, *]
    · have hN' := hN hr
      clear hN
      repeat' (first
        | (refine seq_x fun M hM => ?_)
        | (refine awp_region (by kernel_rfl) ?_)
        | (refine awp_draw Try.follow (by kernel_rfl) (by kernel_rfl) ?_)
        | (refine run_o fun K hK => ?_; simp only [go_sem, *])
        | (refine run_nil ?_; refine to_normal ?_)
        | (refine run_nil ?_)
        | (refine Hide.out hK _ ?_; clear hK K)
        | (refine Hide.out hM _ ?_; clear hM M)
        | (refine run_x rfl (by simp only [go_sem, *]; rfl) ?_)
        | (refine gcase_t ?_)
        | (refine gcase_b (fun hb => ?_) (fun hb => ?_) <;> first | (injection hb) | (subst hb) | (simp only [Bool.not_true, Bool.not_false, Bool.not_eq_true', Bool.not_eq_false', Bool.not_eq_true, Bool.not_eq_false, decide_eq_true_eq, decide_eq_false_iff_not] at hb) | skip)
        | (refine fun (K : Out → Prop) hK => ?_; simp only [go_sem, *])
        | (refine fun (b : Bool) (hT : _ → b = false) => ?_)
        | (refine awp_cond _ (by simp only [go_sem, *]; rfl) (fun hb => ?_) (fun hb => ?_) <;> first | (injection hb) | (subst hb) | (simp only [Bool.not_true, Bool.not_false, Bool.not_eq_true', Bool.not_eq_false', Bool.not_eq_true, Bool.not_eq_false, decide_eq_true_eq, decide_eq_false_iff_not] at hb) | skip)
        | (refine draw_o fun K hK => ?_; simp only [go_sem, *])
        | (refine draw_nil ?_; refine to_normal ?_)
        | (refine draw_nil ?_)
        | (refine Hide.out hK _ dyn_v ?_; clear hK K)
        | (refine Hide.out hK _ dyn_m ?_; clear hK K)
        | (refine Hide.out hK _ dyn_b ?_; clear hK K)
        | (refine Hide.out hK _ dyn_p ?_; clear hK K)
        | (refine Hide.out hK _ dyn_s ?_; clear hK K)
        | (refine Hide.out hK _ dyn_a ?_; clear hK K)
        | (refine Hide.out hK _ (dyn_c (Nat.le_of_ble_eq_true rfl)) ?_; clear hK K)
        | (refine draw_x rfl (by simp only [go_sem, *]; rfl) ?_)
        | (refine ⟨_, c2 _ _, [], .inl rfl, ?_⟩; simp only [go_sem, *])
        | (refine ⟨_, c2 _ _, [], .inr ⟨rfl, flat_of rfl⟩, ?_⟩; simp only [go_sem, *])
        | (refine ⟨_, c2 _ _, _, .inl rfl, ?_⟩; simp only [go_sem, *])
        | (refine awp_block ?_)
        | (refine awp_skip ?_)
        | (refine awp_exit ?_)
        | (refine awp_ret ?_)
        | (refine to_normal ?_)
        | (refine to_ret ?_)
        | (refine to_exit ?_)
        | (refine out_normal ?_)
        | (refine out_ret ?_)
        | (refine out_exit ?_)
        | (refine out_exit' rfl ?_)
        | (refine fin_ret ?_)
        | (refine fin_normal ?_)
        | (refine use_hide (by assumption) ?_)
        | (refine And.intro (by omega) ?_)
        | fail)
      refine ⟨_, 6 - (k + 1), ref_refl, by omega, k + 1, rfl, by omega, hN', ?_, ?_, ?_, ?_, ?_⟩ <;> simp only [go_sem, *]
  have hlt' : ¬ (k : Int) < 6 := by omega
  have hA : ∀ n ∈ RT.times o, RT.rng n 1099511627776 = true := fun n hn => by
    obtain ⟨j, hj, rfl⟩ := List.getElem_of_mem hn
    exact hall.out j hj (by omega)
  clear hall
  have hH2 : Hide (RT.right o = true ↔ (o.Queue = ⟨#[]⟩ ∨ RT.nameOk o.Queue = true) ∧ o.Fatal.length ≤ 64 ∧ RT.rng o.Coef 10000 = true ∧ RT.rng o.Attempts 1000 = true ∧ o.Fatal.any RT.long = false) :=
    ⟨hH.out.trans ⟨fun ⟨a, b, _, d⟩ => ⟨a, b, d⟩, fun ⟨a, b, d⟩ => ⟨a, b, hA, d⟩⟩⟩
  clear hA hH
  repeat' (first
    | (refine seq_x fun M hM => ?_)
    | (refine awp_region (by kernel_rfl) ?_)
    | (refine awp_draw Try.follow (by kernel_rfl) (by kernel_rfl) ?_)
    | (refine run_o fun K hK => ?_; simp only [go_sem, *])
    | (refine run_nil ?_; refine to_normal ?_)
    | (refine run_nil ?_)
    | (refine Hide.out hK _ ?_; clear hK K)
    | (refine Hide.out hM _ ?_; clear hM M)
    | (refine run_x rfl (by simp only [go_sem, *]; rfl) ?_)
    | (refine gcase_t ?_)
    | (refine gcase_b (fun hb => ?_) (fun hb => ?_) <;> first | (injection hb) | (subst hb) | (simp only [Bool.not_true, Bool.not_false, Bool.not_eq_true', Bool.not_eq_false', Bool.not_eq_true, Bool.not_eq_false, decide_eq_true_eq, decide_eq_false_iff_not] at hb) | skip)
    | (refine fun (K : Out → Prop) hK => ?_; simp only [go_sem, *])
    | (refine fun (b : Bool) (hT : _ → b = false) => ?_)
    | (refine awp_cond _ (by simp only [go_sem, *]; rfl) (fun hb => ?_) (fun hb => ?_) <;> first | (injection hb) | (subst hb) | (simp only [Bool.not_true, Bool.not_false, Bool.not_eq_true', Bool.not_eq_false', Bool.not_eq_true, Bool.not_eq_false, decide_eq_true_eq, decide_eq_false_iff_not] at hb) | skip)
    | (refine draw_o fun K hK => ?_; simp only [go_sem, *])
    | (refine draw_nil ?_; refine to_normal ?_)
    | (refine draw_nil ?_)
    | (refine Hide.out hK _ dyn_v ?_; clear hK K)
    | (refine Hide.out hK _ dyn_m ?_; clear hK K)
    | (refine Hide.out hK _ dyn_b ?_; clear hK K)
    | (refine Hide.out hK _ dyn_p ?_; clear hK K)
    | (refine Hide.out hK _ dyn_s ?_; clear hK K)
    | (refine Hide.out hK _ dyn_a ?_; clear hK K)
    | (refine Hide.out hK _ (dyn_c (Nat.le_of_ble_eq_true rfl)) ?_; clear hK K)
    | (refine draw_x rfl (by simp only [go_sem, *]; rfl) ?_)
    | (refine awp_block ?_)
    | (refine awp_skip ?_)
    | (refine awp_exit ?_)
    | (refine awp_ret ?_)
    | (refine to_normal ?_)
    | (refine to_ret ?_)
    | (refine to_exit ?_)
    | (refine out_normal ?_)
    | (refine out_ret ?_)
    | (refine out_exit ?_)
    | (refine out_exit' rfl ?_)
    | (refine fin_ret ?_)
    | (refine fin_normal ?_)
    | (refine use_hide (by assumption) ?_)
    | (refine And.intro (by omega) ?_)
    | fail)
  refine awp_loop_r (fun n s => ∃ k : Nat, n = o.Fatal.length - k ∧ k ≤ o.Fatal.length ∧ Hide (∀ j (h : j < o.Fatal.length), j < k → RT.long o.Fatal[j] = false) ∧ s.t 1 = .one (.ptr 1000 0 0) ∧ s.H 1000 0 = some (.box (o.cs.map A.c)) ∧ s.t 5 = .one (.c (.int .i64 (k : Nat)))) o.Fatal.length
    ⟨_, ref_refl, 0, rfl, Nat.zero_le _, ⟨fun j h hj => absurd hj (Nat.not_lt_zero j)⟩, by simp only [go_sem, *], by simp only [go_sem, *], by simp only [go_sem, *]; rfl⟩ ?_
  clear hn' hk h1 hb h32 hL h34 hw hlt hlt' hlen hml
  rintro n s ⟨k, hn', hk, hall, h1, hb, h34⟩
  have hw : IntKind.i64.wrap ((k : Int) + 1) = ((k + 1 : Nat) : Int) := by rw [w64] <;> omega
  by_cases hlt : k < o.Fatal.length
  · have hx : (o.Fatal.map strC).getD k [] = [C.str o.Fatal[k]] := at_map strC o.Fatal k (by omega)
    have hm : o.Fatal[k] ∈ o.Fatal := List.getElem_mem (by omega)
    have hN : RT.long o.Fatal[k] = false → Hide (∀ j (h : j < o.Fatal.length), j < k + 1 → RT.long o.Fatal[j] = false) := fun e => ⟨fun j h hj => (Nat.lt_succ_iff_lt_or_eq.1 hj).elim (hall.out j h) (fun e2 => by subst e2; exact e)⟩
    clear hall
    generalize o.Fatal[k] = x at hx hm hN
    by_cases hr : (4096 : Int) < (x.size : Int)
    · have hf : RT.right o = false := by
        cases h : RT.right o
        · rfl
        · have := List.any_eq_false.1 (hH2.out.1 h).2.2.2.2 x hm; exact absurd (by simp [RT.long]; omega) this
      clear hN
      repeat' (first
        | (refine seq_x fun M hM => ?_)
        | (refine awp_region (by kernel_rfl) ?_)
        | (refine awp_draw Try.follow (by kernel_rfl) (by kernel_rfl) ?_)
        | (refine run_o fun K hK => ?_; simp only [go_sem, *])
        | (refine run_nil ?_; refine to_normal ?_)
        | (refine run_nil ?_)
        | (refine Hide.out hK _ ?_; clear hK K)
        | (refine Hide.out hM _ ?_; clear hM M)
        | (refine run_x rfl (by simp only [go_sem, *]; rfl) ?_)
        | (refine gcase_t ?_)
        | (refine gcase_b (fun hb => ?_) (fun hb => ?_) <;> first | (injection hb) | (subst hb) | (simp only [Bool.not_true, Bool.not_false, Bool.not_eq_true', Bool.not_eq_false', Bool.not_eq_true, Bool.not_eq_false, decide_eq_true_eq, decide_eq_false_iff_not] at hb) | skip)
        | (refine fun (K : Out → Prop) hK => ?_; simp only [go_sem, *])
        | (refine fun (b : Bool) (hT : _ → b = false) => ?_)
        | (refine awp_cond _ (by simp only [go_sem, *]; rfl) (fun hb => ?_) (fun hb => ?_) <;> first | (injection hb) | (subst hb) | (simp only [Bool.not_true, Bool.not_false, Bool.not_eq_true', Bool.not_eq_false', Bool.not_eq_true, Bool.not_eq_false, decide_eq_true_eq, decide_eq_false_iff_not] at hb) | skip)
        | (refine draw_o fun K hK => ?_; simp only [go_sem, *])
        | (refine draw_nil ?_; refine to_normal ?_)
        | (refine draw_nil ?_)
        | (refine Hide.out hK _ dyn_v ?_; clear hK K)
        | (refine Hide.out hK _ dyn_m ?_; clear hK K)
        | (refine Hide.out hK _ dyn_b ?_; clear hK K)
        | (refine Hide.out hK _ dyn_p ?_; clear hK K)
        | (refine Hide.out hK _ dyn_s ?_; clear hK K)
        | (refine Hide.out hK _ dyn_a ?_; clear hK K)
        | (refine Hide.out hK _ (dyn_c (Nat.le_of_ble_eq_true rfl)) ?_; clear hK K)
        | (refine draw_x rfl (by simp only [go_sem, *]; rfl) ?_)
        | (refine awp_block ?_)
        | (refine awp_skip ?_)
        | (refine awp_exit ?_)
        | (refine awp_ret ?_)
        | (refine to_normal ?_)
        | (refine to_ret ?_)
        | (refine to_exit ?_)
        | (refine out_normal ?_)
        | (refine out_ret ?_)
        | (refine out_exit ?_)
        | (refine out_exit' rfl ?_)
        | (refine fin_ret ?_)
        | (refine fin_normal ?_)
        | (refine use_hide (by assumption) ?_)
        | (refine And.intro (by omega) ?_)
        | fail)
      all_goals refine retOk_def (by simp [Try.f65, go_sem]) (by simp only [Try.f65, go_sem, *]; rfl) rfl ?_ ?_ ?_
      all_goals simp only [go_sem, *]
    · have hN' := hN (by simp [RT.long]; omega)
      clear hN
      repeat' (first
        | (refine seq_x fun M hM => ?_)
        | (refine awp_region (by kernel_rfl) ?_)
        | (refine awp_draw Try.follow (by kernel_rfl) (by kernel_rfl) ?_)
        | (refine run_o fun K hK => ?_; simp only [go_sem, *])
        | (refine run_nil ?_; refine to_normal ?_)
        | (refine run_nil ?_)
        | (refine Hide.out hK _ ?_; clear hK K)
        | (refine Hide.out hM _ ?_; clear hM M)
        | (refine run_x rfl (by simp only [go_sem, *]; rfl) ?_)
        | (refine gcase_t ?_)
        | (refine gcase_b (fun hb => ?_) (fun hb => ?_) <;> first | (injection hb) | (subst hb) | (simp only [Bool.not_true, Bool.not_false, Bool.not_eq_true', Bool.not_eq_false', Bool.not_eq_true, Bool.not_eq_false, decide_eq_true_eq, decide_eq_false_iff_not] at hb) | skip)
        | (refine fun (K : Out → Prop) hK => ?_; simp only [go_sem, *])
        | (refine fun (b : Bool) (hT : _ → b = false) => ?_)
        | (refine awp_cond _ (by simp only [go_sem, *]; rfl) (fun hb => ?_) (fun hb => ?_) <;> first | (injection hb) | (subst hb) | (simp only [Bool.not_true, Bool.not_false, Bool.not_eq_true', Bool.not_eq_false', Bool.not_eq_true, Bool.not_eq_false, decide_eq_true_eq, decide_eq_false_iff_not] at hb) | skip)
        | (refine draw_o fun K hK => ?_; simp only [go_sem, *])
        | (refine draw_nil ?_; refine to_normal ?_)
        | (refine draw_nil ?_)
        | (refine Hide.out hK _ dyn_v ?_; clear hK K)
        | (refine Hide.out hK _ dyn_m ?_; clear hK K)
        | (refine Hide.out hK _ dyn_b ?_; clear hK K)
        | (refine Hide.out hK _ dyn_p ?_; clear hK K)
        | (refine Hide.out hK _ dyn_s ?_; clear hK K)
        | (refine Hide.out hK _ dyn_a ?_; clear hK K)
        | (refine Hide.out hK _ (dyn_c (Nat.le_of_ble_eq_true rfl)) ?_; clear hK K)
        | (refine draw_x rfl (by simp only [go_sem, *]; rfl) ?_)
        | (refine awp_block ?_)
        | (refine awp_skip ?_)
        | (refine awp_exit ?_)
        | (refine awp_ret ?_)
        | (refine to_normal ?_)
        | (refine to_ret ?_)
        | (refine to_exit ?_)
        | (refine out_normal ?_)
        | (refine out_ret ?_)
        | (refine out_exit ?_)
        | (refine out_exit' rfl ?_)
        | (refine fin_ret ?_)
        | (refine fin_normal ?_)
        | (refine use_hide (by assumption) ?_)
        | (refine And.intro (by omega) ?_)
        | fail)
      refine ⟨_, o.Fatal.length - (k + 1), ref_refl, by omega, k + 1, rfl, by omega, hN', ?_, ?_, ?_⟩ <;> simp only [go_sem, *]
  have hA : o.Fatal.any RT.long = false := List.any_eq_false.2 fun n hn => by
    obtain ⟨j, hj, rfl⟩ := List.getElem_of_mem hn
    rw [hall.out j hj (by omega)]; decide
  clear hall
  have hR2 : RT.right o = ((decide (o.Queue = ⟨#[]⟩) || RT.nameOk o.Queue) && RT.rng o.Coef 10000 && RT.rng o.Attempts 1000 && decide ((o.Fatal.length : Int) ≤ 64)) := by
    rw [Bool.eq_iff_iff, hH2.out]
    simp only [Bool.and_eq_true, Bool.or_eq_true, decide_eq_true_eq]
    constructor
    · rintro ⟨a, b, c, d, e⟩; exact ⟨⟨⟨a, c⟩, d⟩, by omega⟩
    · rintro ⟨⟨⟨a, c⟩, d⟩, b⟩; exact ⟨a, by omega, c, d, hA⟩
  clear hA hH2
  cases e1 : RT.rng o.Coef 10000 <;> cases e2 : RT.rng o.Attempts 1000
  all_goals
    rw [e1, e2] at hR2
    by_cases he : o.Queue = ⟨#[]⟩
    · repeat' (first
        | (refine seq_x fun M hM => ?_)
        | (refine awp_region (by kernel_rfl) ?_)
        | (refine awp_draw Try.follow (by kernel_rfl) (by kernel_rfl) ?_)
        | (refine run_o fun K hK => ?_; simp only [go_sem, *])
        | (refine run_nil ?_; refine to_normal ?_)
        | (refine run_nil ?_)
        | (refine Hide.out hK _ ?_; clear hK K)
        | (refine Hide.out hM _ ?_; clear hM M)
        | (refine run_x rfl (by simp only [go_sem, *]; rfl) ?_)
        | (refine gcase_t ?_)
        | (refine gcase_b (fun hb => ?_) (fun hb => ?_) <;> first | (injection hb) | (subst hb) | (simp only [Bool.not_true, Bool.not_false, Bool.not_eq_true', Bool.not_eq_false', Bool.not_eq_true, Bool.not_eq_false, decide_eq_true_eq, decide_eq_false_iff_not] at hb) | skip)
        | (refine fun (K : Out → Prop) hK => ?_; simp only [go_sem, *])
        | (refine fun (b : Bool) (hT : _ → b = false) => ?_)
        | (refine awp_cond _ (by simp only [go_sem, *]; rfl) (fun hb => ?_) (fun hb => ?_) <;> first | (injection hb) | (subst hb) | (simp only [Bool.not_true, Bool.not_false, Bool.not_eq_true', Bool.not_eq_false', Bool.not_eq_true, Bool.not_eq_false, decide_eq_true_eq, decide_eq_false_iff_not] at hb) | skip)
        | (refine draw_o fun K hK => ?_; simp only [go_sem, *])
        | (refine draw_nil ?_; refine to_normal ?_)
        | (refine draw_nil ?_)
        | (refine Hide.out hK _ dyn_v ?_; clear hK K)
        | (refine Hide.out hK _ dyn_m ?_; clear hK K)
        | (refine Hide.out hK _ dyn_b ?_; clear hK K)
        | (refine Hide.out hK _ dyn_p ?_; clear hK K)
        | (refine Hide.out hK _ dyn_s ?_; clear hK K)
        | (refine Hide.out hK _ dyn_a ?_; clear hK K)
        | (refine Hide.out hK _ (dyn_c (Nat.le_of_ble_eq_true rfl)) ?_; clear hK K)
        | (refine draw_x rfl (by simp only [go_sem, *]; rfl) ?_)
        | (refine ⟨_, c1, [], .inl rfl, ?_⟩; simp only [go_sem, *])
        | (refine ⟨_, c1, [], .inr ⟨rfl, flat_of rfl⟩, ?_⟩; simp only [go_sem, *])
        | (refine ⟨_, c1, _, .inl rfl, ?_⟩; simp only [go_sem, *])
        | (refine ⟨_, c2 _ _, [], .inl rfl, ?_⟩; simp only [go_sem, *])
        | (refine ⟨_, c2 _ _, [], .inr ⟨rfl, flat_of rfl⟩, ?_⟩; simp only [go_sem, *])
        | (refine ⟨_, c2 _ _, _, .inl rfl, ?_⟩; simp only [go_sem, *])
        | (refine awp_block ?_)
        | (refine awp_skip ?_)
        | (refine awp_exit ?_)
        | (refine awp_ret ?_)
        | (refine to_normal ?_)
        | (refine to_ret ?_)
        | (refine to_exit ?_)
        | (refine out_normal ?_)
        | (refine out_ret ?_)
        | (refine out_exit ?_)
        | (refine out_exit' rfl ?_)
        | (refine fin_ret ?_)
        | (refine fin_normal ?_)
        | (refine use_hide (by assumption) ?_)
        | (refine And.intro (by omega) ?_)
        | fail)
      all_goals refine retOk_def (by simp [Try.f65, go_sem]) (by simp only [Try.f65, go_sem, *]; rfl) rfl ?_ ?_ ?_
      all_goals simp only [go_sem, *]
    · cases e3 : RT.nameOk o.Queue
      all_goals
        rw [e3] at hR2
        repeat' (first
          | (refine seq_x fun M hM => ?_)
          | (refine awp_region (by kernel_rfl) ?_)
          | (refine awp_draw Try.follow (by kernel_rfl) (by kernel_rfl) ?_)
          | (refine run_o fun K hK => ?_; simp only [go_sem, *])
          | (refine run_nil ?_; refine to_normal ?_)
          | (refine run_nil ?_)
          | (refine Hide.out hK _ ?_; clear hK K)
          | (refine Hide.out hM _ ?_; clear hM M)
          | (refine run_x rfl (by simp only [go_sem, *]; rfl) ?_)
          | (refine gcase_t ?_)
          | (refine gcase_b (fun hb => ?_) (fun hb => ?_) <;> first | (injection hb) | (subst hb) | (simp only [Bool.not_true, Bool.not_false, Bool.not_eq_true', Bool.not_eq_false', Bool.not_eq_true, Bool.not_eq_false, decide_eq_true_eq, decide_eq_false_iff_not] at hb) | skip)
          | (refine fun (K : Out → Prop) hK => ?_; simp only [go_sem, *])
          | (refine fun (b : Bool) (hT : _ → b = false) => ?_)
          | (refine awp_cond _ (by simp only [go_sem, *]; rfl) (fun hb => ?_) (fun hb => ?_) <;> first | (injection hb) | (subst hb) | (simp only [Bool.not_true, Bool.not_false, Bool.not_eq_true', Bool.not_eq_false', Bool.not_eq_true, Bool.not_eq_false, decide_eq_true_eq, decide_eq_false_iff_not] at hb) | skip)
          | (refine draw_o fun K hK => ?_; simp only [go_sem, *])
          | (refine draw_nil ?_; refine to_normal ?_)
          | (refine draw_nil ?_)
          | (refine Hide.out hK _ dyn_v ?_; clear hK K)
          | (refine Hide.out hK _ dyn_m ?_; clear hK K)
          | (refine Hide.out hK _ dyn_b ?_; clear hK K)
          | (refine Hide.out hK _ dyn_p ?_; clear hK K)
          | (refine Hide.out hK _ dyn_s ?_; clear hK K)
          | (refine Hide.out hK _ dyn_a ?_; clear hK K)
          | (refine Hide.out hK _ (dyn_c (Nat.le_of_ble_eq_true rfl)) ?_; clear hK K)
          | (refine draw_x rfl (by simp only [go_sem, *]; rfl) ?_)
          | (refine ⟨_, c1, [], .inl rfl, ?_⟩; simp only [go_sem, *])
          | (refine ⟨_, c1, [], .inr ⟨rfl, flat_of rfl⟩, ?_⟩; simp only [go_sem, *])
          | (refine ⟨_, c1, _, .inl rfl, ?_⟩; simp only [go_sem, *])
          | (refine ⟨_, c2 _ _, [], .inl rfl, ?_⟩; simp only [go_sem, *])
          | (refine ⟨_, c2 _ _, [], .inr ⟨rfl, flat_of rfl⟩, ?_⟩; simp only [go_sem, *])
          | (refine ⟨_, c2 _ _, _, .inl rfl, ?_⟩; simp only [go_sem, *])
          | (refine awp_block ?_)
          | (refine awp_skip ?_)
          | (refine awp_exit ?_)
          | (refine awp_ret ?_)
          | (refine to_normal ?_)
          | (refine to_ret ?_)
          | (refine to_exit ?_)
          | (refine out_normal ?_)
          | (refine out_ret ?_)
          | (refine out_exit ?_)
          | (refine out_exit' rfl ?_)
          | (refine fin_ret ?_)
          | (refine fin_normal ?_)
          | (refine use_hide (by assumption) ?_)
          | (refine And.intro (by omega) ?_)
          | fail)
        all_goals refine retOk_def (by simp [Try.f65, go_sem]) (by simp only [Try.f65, go_sem, *]; rfl) rfl ?_ ?_ ?_
        all_goals simp only [go_sem, *]
end Go.Proofs
