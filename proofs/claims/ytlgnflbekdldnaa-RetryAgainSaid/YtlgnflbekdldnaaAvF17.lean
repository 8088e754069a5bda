/- Policies filled in. -/
import Derived.Test.YtlgnflbekdldnaaAvF15
import Derived.Test.YtlgnflbekdldnaaAvF16
set_option linter.unusedVariables false
set_option linter.unusedSimpArgs false
set_option maxRecDepth 4000
set_option maxHeartbeats 1000000
namespace Go.Proofs
open Go.AV Go.RowKit
attribute [local irreducible] dynOk Out.quiet Out.small AWp aRun dWalk aOut thenA inBlockA retOk retAVs AS.init Out.apply
theorem Try.k130 (o : GPolicy) (hb : RT.Bnd o) : AV.Spec Try.prog 130 [.agg o.cs] [.agg ((RT.fill o).cs.map .c)] := by
  have hw1 : IntKind.i64.wrap (100 * o.First) = 100 * o.First := by have := hb.fst; rw [w64] <;> omega
  have hw2 : IntKind.i64.wrap 100 = 100 := rfl
  have hf : RT.fill o = { o with First := if o.First = 0 then 1 else o.First, Coef := if o.Coef = 0 then 200 else o.Coef, Most := if o.Most = 0 then (if 1099511627776 < 100 * (if o.First = 0 then 1 else o.First) then 1099511627776 else 100 * (if o.First = 0 then 1 else o.First)) else o.Most } := rfl
  clear hb
  by_cases h1 : o.First = 0 <;> by_cases h2 : o.Coef = 0 <;> by_cases h3 : o.Most = 0
  all_goals
    simp only [h1, h2, h3, if_true, if_false, ↓reduceIte] at hf
    refine spec_of_body Try.func130 rfl rfl (by simp) (fun B w0 => ?_)
    repeat' (first
      | (refine seq_x fun M hM => ?_)
      | (refine awp_region (by kernel_rfl) ?_)
      | (refine awp_draw Try.follow (by kernel_rfl) (by kernel_rfl) ?_)
      | (refine run_o fun K hK => ?_; simp only [go_sem, *])
      | (refine run_nil ?_; refine to_normal ?_)
      | (refine run_nil ?_)
      | (refine Hide.out hK _ ?_; clear hK K)
      | (refine Hide.out hM _ ?_; clear hM M)
      | (refine run_x rfl (by simp only [go_sem, *]; rfl) ?_)
      | (refine gcase_t ?_)
      | (refine gcase_b (fun hb => ?_) (fun hb => ?_) <;> first | (injection hb) | (subst hb) | (simp only [Bool.not_true, Bool.not_false, Bool.not_eq_true', Bool.not_eq_false', Bool.not_eq_true, Bool.not_eq_false, decide_eq_true_eq, decide_eq_false_iff_not] at hb) | skip)
      | (refine fun (K : Out → Prop) hK => ?_; simp only [go_sem, *])
      | (refine fun (b : Bool) (hT : _ → b = false) => ?_)
      | (refine awp_cond _ (by simp only [go_sem, *]; rfl) (fun hb => ?_) (fun hb => ?_) <;> first | (injection hb) | (subst hb) | (simp only [Bool.not_true, Bool.not_false, Bool.not_eq_true', Bool.not_eq_false', Bool.not_eq_true, Bool.not_eq_false, decide_eq_true_eq, decide_eq_false_iff_not] at hb) | skip)
      | (refine draw_o fun K hK => ?_; simp only [go_sem, *])
      | (refine draw_nil ?_; refine to_normal ?_)
      | (refine draw_nil ?_)
      | (refine Hide.out hK _ dyn_v ?_; clear hK K)
      | (refine Hide.out hK _ dyn_m ?_; clear hK K)
      | (refine Hide.out hK _ dyn_b ?_; clear hK K)
      | (refine Hide.out hK _ dyn_p ?_; clear hK K)
      | (refine Hide.out hK _ dyn_s ?_; clear hK K)
      | (refine Hide.out hK _ dyn_a ?_; clear hK K)
      | (refine Hide.out hK _ (dyn_c (Nat.le_of_ble_eq_true rfl)) ?_; clear hK K)
      | (refine draw_x rfl (by simp only [go_sem, *]; rfl) ?_)
      | (refine awp_block ?_)
      | (refine awp_skip ?_)
      | (refine awp_exit ?_)
      | (refine awp_ret ?_)
      | (refine to_normal ?_)
      | (refine to_ret ?_)
      | (refine to_exit ?_)
      | (refine out_normal ?_)
      | (refine out_ret ?_)
      | (refine out_exit ?_)
      | (refine out_exit' rfl ?_)
      | (refine fin_ret ?_)
      | (refine fin_normal ?_)
      | (refine use_hide (by assumption) ?_)
      | (refine And.intro (by omega) ?_)
      | fail)
    all_goals refine retOk_def (by simp [Try.f130, go_sem]) (by simp only [Try.f130, go_sem, *]; rfl) rfl ?_ ?_ ?_
    all_goals try simp only [go_sem, *]
    all_goals try rfl
theorem Try.k66 (o : GPolicy) (ho : o.ok) : AV.Spec Try.prog 66 [.agg o.cs] [.agg ((RT.deflt o).cs.map .c)] := by
  have c1 := Try.k129 o ho
  have c2 := (Try.k136 o.Fatal (RT.ok_fatal ho)).c1
  by_cases hr : RT.right o = true
  · have c3 := Try.k130 o (RT.right_bnd hr)
    have hd : RT.deflt o = RT.fill o := by unfold RT.deflt; rw [if_pos hr]
    have hfa : (RT.fill o).Fatal = o.Fatal := rfl
    have hsf : { RT.fill o with Fatal := o.Fatal } = RT.fill o := rfl
    clear ho
    rw [hr] at c1
    refine spec_of_body Try.func66 rfl rfl (by simp) (fun B w0 => ?_)
    repeat' (first
      | (refine seq_x fun M hM => ?_)
      | (refine awp_region (by kernel_rfl) ?_)
      | (refine awp_draw Try.follow (by kernel_rfl) (by kernel_rfl) ?_)
      | (refine run_o fun K hK => ?_; simp only [go_sem, *])
      | (refine run_nil ?_; refine to_normal ?_)
      | (refine run_nil ?_)
      | (refine Hide.out hK _ ?_; clear hK K)
      | (refine Hide.out hM _ ?_; clear hM M)
      | (refine run_x rfl (by simp only [go_sem, *]; rfl) ?_)
      | (refine gcase_t ?_)
      | (refine gcase_b (fun hb => ?_) (fun hb => ?_) <;> first | (injection hb) | (subst hb) | (simp only [Bool.not_true, Bool.not_false, Bool.not_eq_true', Bool.not_eq_false', Bool.not_eq_true, Bool.not_eq_false, decide_eq_true_eq, decide_eq_false_iff_not] at hb) | skip)
      | (refine fun (K : Out → Prop) hK => ?_; simp only [go_sem, *])
      | (refine fun (b : Bool) (hT : _ → b = false) => ?_)
      | (refine awp_cond _ (by simp only [go_sem, *]; rfl) (fun hb => ?_) (fun hb => ?_) <;> first | (injection hb) | (subst hb) | (simp only [Bool.not_true, Bool.not_false, Bool.not_eq_true', Bool.not_eq_false', Bool.not_eq_true, Bool.not_eq_false, decide_eq_true_eq, decide_eq_false_iff_not] at hb) | skip)
      | (refine draw_o fun K hK => ?_; simp only [go_sem, *])
      | (refine draw_nil ?_; refine to_normal ?_)
      | (refine draw_nil ?_)
      | (refine Hide.out hK _ dyn_v ?_; clear hK K)
      | (refine Hide.out hK _ dyn_m ?_; clear hK K)
      | (refine Hide.out hK _ dyn_b ?_; clear hK K)
      | (refine Hide.out hK _ dyn_p ?_; clear hK K)
      | (refine Hide.out hK _ dyn_s ?_; clear hK K)
      | (refine Hide.out hK _ dyn_a ?_; clear hK K)
      | (refine Hide.out hK _ (dyn_c (Nat.le_of_ble_eq_true rfl)) ?_; clear hK K)
      | (refine draw_x rfl (by simp only [go_sem, *]; rfl) ?_)
      | (refine ⟨_, c1, [], .inl rfl, ?_⟩; simp only [go_sem, *])
      | (refine ⟨_, c1, [], .inr ⟨rfl, flat_of rfl⟩, ?_⟩; simp only [go_sem, *])
      | (refine ⟨_, c1, _, .inl rfl, ?_⟩; simp only [go_sem, *])
      | (refine ⟨_, c2, [], .inl rfl, ?_⟩; simp only [go_sem, *])
      | (refine ⟨_, c2, [], .inr ⟨rfl, flat_of rfl⟩, ?_⟩; simp only [go_sem, *])
      | (refine ⟨_, c2, _, .inl rfl, ?_⟩; simp only [go_sem, *])
      | (refine ⟨_, c3, [], .inl rfl, ?_⟩; simp only [go_sem, *])
      | (refine ⟨_, c3, [], .inr ⟨rfl, flat_of rfl⟩, ?_⟩; simp only [go_sem, *])
      | (refine ⟨_, c3, _, .inl rfl, ?_⟩; simp only [go_sem, *])
      | (refine awp_block ?_)
      | (refine awp_skip ?_)
      | (refine awp_exit ?_)
      | (refine awp_ret ?_)
      | (refine to_normal ?_)
      | (refine to_ret ?_)
      | (refine to_exit ?_)
      | (refine out_normal ?_)
      | (refine out_ret ?_)
      | (refine out_exit ?_)
      | (refine out_exit' rfl ?_)
      | (refine fin_ret ?_)
      | (refine fin_normal ?_)
      | (refine use_hide (by assumption) ?_)
      | (refine And.intro (by omega) ?_)
      | fail)
    all_goals refine retOk_def (by simp [Try.f66, go_sem]) (by simp only [Try.f66, go_sem, *]; rfl) rfl ?_ ?_ ?_
    all_goals try simp only [go_sem, *]
  · have hd : RT.deflt o = o := by unfold RT.deflt; rw [if_neg hr]
    have hr' : RT.right o = false := by simpa using hr
    have hsf : { o with Fatal := o.Fatal } = o := rfl
    clear ho
    rw [hr'] at c1
    refine spec_of_body Try.func66 rfl rfl (by simp) (fun B w0 => ?_)
    repeat' (first
      | (refine seq_x fun M hM => ?_)
      | (refine awp_region (by kernel_rfl) ?_)
      | (refine awp_draw Try.follow (by kernel_rfl) (by kernel_rfl) ?_)
      | (refine run_o fun K hK => ?_; simp only [go_sem, *])
      | (refine run_nil ?_; refine to_normal ?_)
      | (refine run_nil ?_)
      | (refine Hide.out hK _ ?_; clear hK K)
      | (refine Hide.out hM _ ?_; clear hM M)
      | (refine run_x rfl (by simp only [go_sem, *]; rfl) ?_)
      | (refine gcase_t ?_)
      | (refine gcase_b (fun hb => ?_) (fun hb => ?_) <;> first | (injection hb) | (subst hb) | (simp only [Bool.not_true, Bool.not_false, Bool.not_eq_true', Bool.not_eq_false', Bool.not_eq_true, Bool.not_eq_false, decide_eq_true_eq, decide_eq_false_iff_not] at hb) | skip)
      | (refine fun (K : Out → Prop) hK => ?_; simp only [go_sem, *])
      | (refine fun (b : Bool) (hT : _ → b = false) => ?_)
      | (refine awp_cond _ (by simp only [go_sem, *]; rfl) (fun hb => ?_) (fun hb => ?_) <;> first | (injection hb) | (subst hb) | (simp only [Bool.not_true, Bool.not_false, Bool.not_eq_true', Bool.not_eq_false', Bool.not_eq_true, Bool.not_eq_false, decide_eq_true_eq, decide_eq_false_iff_not] at hb) | skip)
      | (refine draw_o fun K hK => ?_; simp only [go_sem, *])
      | (refine draw_nil ?_; refine to_normal ?_)
      | (refine draw_nil ?_)
      | (refine Hide.out hK _ dyn_v ?_; clear hK K)
      | (refine Hide.out hK _ dyn_m ?_; clear hK K)
      | (refine Hide.out hK _ dyn_b ?_; clear hK K)
      | (refine Hide.out hK _ dyn_p ?_; clear hK K)
      | (refine Hide.out hK _ dyn_s ?_; clear hK K)
      | (refine Hide.out hK _ dyn_a ?_; clear hK K)
      | (refine Hide.out hK _ (dyn_c (Nat.le_of_ble_eq_true rfl)) ?_; clear hK K)
      | (refine draw_x rfl (by simp only [go_sem, *]; rfl) ?_)
      | (refine ⟨_, c1, [], .inl rfl, ?_⟩; simp only [go_sem, *])
      | (refine ⟨_, c1, [], .inr ⟨rfl, flat_of rfl⟩, ?_⟩; simp only [go_sem, *])
      | (refine ⟨_, c1, _, .inl rfl, ?_⟩; simp only [go_sem, *])
      | (refine ⟨_, c2, [], .inl rfl, ?_⟩; simp only [go_sem, *])
      | (refine ⟨_, c2, [], .inr ⟨rfl, flat_of rfl⟩, ?_⟩; simp only [go_sem, *])
      | (refine ⟨_, c2, _, .inl rfl, ?_⟩; simp only [go_sem, *])
      | (refine awp_block ?_)
      | (refine awp_skip ?_)
      | (refine awp_exit ?_)
      | (refine awp_ret ?_)
      | (refine to_normal ?_)
      | (refine to_ret ?_)
      | (refine to_exit ?_)
      | (refine out_normal ?_)
      | (refine out_ret ?_)
      | (refine out_exit ?_)
      | (refine out_exit' rfl ?_)
      | (refine fin_ret ?_)
      | (refine fin_normal ?_)
      | (refine use_hide (by assumption) ?_)
      | (refine And.intro (by omega) ?_)
      | fail)
    all_goals refine retOk_def (by simp [Try.f66, go_sem]) (by simp only [Try.f66, go_sem, *]; rfl) rfl ?_ ?_ ?_
    all_goals try simp only [go_sem, *]
set_option maxHeartbeats 1000000 in
theorem Try.k68 (o : GPolicy) (ho : o.ok) : AV.Spec Try.prog 68 [.agg o.cs] [.agg ((RT.deflt o).cs.map .c)] := by
  have c1 := Try.k65 o ho
  have hfl := RT.ok_fatal ho
  rw [reach_eq] at hfl
  have hcs : o.cs = [.str o.Queue, .int .i64 o.ToStart, .int .i64 o.ToClose, .int .i64 o.Total, .int .i64 o.Beat, .int .i64 o.First, .int .i64 o.Coef, .int .i64 o.Most, .int .i64 o.Attempts, .sl (o.Fatal.map strC)] := rfl
  have hsz : ∀ (x y : A) (xs : List A), spl (x :: xs) 0 [y] = y :: xs := fun _ _ _ => rfl
  have hss : ∀ (x y : A) (xs : List A) (n : Nat), spl (x :: xs) (n + 1) [y] = x :: spl xs n [y] := fun x y xs n => by
    show _ ++ _ ++ _ = _
    simp [spl, Nat.add_right_comm]
  have hm1 := @List.map_cons C A A.c
  have hm2 := @List.map_nil C A A.c
  have hm3 := @List.take_succ_cons A
  have hm4 := @List.take_zero A
  have hm5 := @List.all_cons A
  have hm6 := @List.all_nil A
  have hm7 := @List.drop_succ_cons A
  have hm8 := @List.drop_zero A
  have hm9 := @List.map_cons C R R.c
  have hm10 := @List.map_nil C R R.c
  by_cases hr : RT.right o = true
  · have hb := RT.right_bnd hr
    have hw1 : IntKind.i64.wrap (100 * o.First) = 100 * o.First := by have := hb.fst; rw [w64] <;> omega
    have hw2 : IntKind.i64.wrap 100 = 100 := rfl
    have hd : ∀ p, RT.fill o = p → (RT.deflt o).cs = [.str o.Queue, .int .i64 o.ToStart, .int .i64 o.ToClose, .int .i64 o.Total, .int .i64 o.Beat, .int .i64 p.First, .int .i64 p.Coef, .int .i64 p.Most, .int .i64 o.Attempts, .sl (o.Fatal.map strC)] := by
      rintro p rfl; unfold RT.deflt; rw [if_pos hr]; rfl
    have hd := hd _ rfl
    simp only [RT.fill] at hd
    clear hb ho
    rw [hr] at c1
    by_cases h1 : o.First = 0 <;> by_cases h2 : o.Coef = 0 <;> by_cases h3 : o.Most = 0
    all_goals by_cases h4 : o.First ≤ 10995116277
    all_goals first
      | (exfalso; omega)
      | (have h5 : ¬ 1099511627776 < 100 * o.First := by omega)
      | (have h5 : 1099511627776 < 100 * o.First := by omega)
    all_goals
      simp only [h1, h2, h3, if_true, if_false, ↓reduceIte] at hd
      try simp only [h5, if_true, if_false, ↓reduceIte] at hd
      try simp only [Int.reduceMul, Int.reduceLT, if_true, if_false, ↓reduceIte] at hd
      simp only [hcs, h1, h2, h3] at c1
      refine spec_of_body Try.func68 rfl rfl (by simp) (fun B w0 => ?_)
      repeat' (first
        | (refine seq_x fun M hM => ?_)
        | (refine awp_region (by kernel_rfl) ?_)
        | (refine awp_draw Try.follow (by kernel_rfl) (by kernel_rfl) ?_)
        | (refine run_o fun K hK => ?_; simp only [go_sem, *])
        | (refine run_nil ?_; refine to_normal ?_)
        | (refine run_nil ?_)
        | (refine Hide.out hK _ ?_; clear hK K)
        | (refine Hide.out hM _ ?_; clear hM M)
        | (refine run_x rfl (by simp only [go_sem, *]; rfl) ?_)
        | (refine gcase_t ?_)
        | (refine gcase_b (fun hb => ?_) (fun hb => ?_) <;> first | (injection hb) | (subst hb) | (simp only [Bool.not_true, Bool.not_false, Bool.not_eq_true', Bool.not_eq_false', Bool.not_eq_true, Bool.not_eq_false, decide_eq_true_eq, decide_eq_false_iff_not] at hb) | skip)
        | (refine fun (K : Out → Prop) hK => ?_; simp only [go_sem, *])
        | (refine fun (b : Bool) (hT : _ → b = false) => ?_)
        | (refine awp_cond _ (by simp only [go_sem, *]; rfl) (fun hb => ?_) (fun hb => ?_) <;> first | (injection hb) | (subst hb) | (simp only [Bool.not_true, Bool.not_false, Bool.not_eq_true', Bool.not_eq_false', Bool.not_eq_true, Bool.not_eq_false, decide_eq_true_eq, decide_eq_false_iff_not] at hb) | skip)
        | (refine draw_o fun K hK => ?_; simp only [go_sem, *])
        | (refine draw_nil ?_; refine to_normal ?_)
        | (refine draw_nil ?_)
        | (refine Hide.out hK _ dyn_v ?_; clear hK K)
        | (refine Hide.out hK _ dyn_m ?_; clear hK K)
        | (refine Hide.out hK _ dyn_b ?_; clear hK K)
        | (refine Hide.out hK _ dyn_p ?_; clear hK K)
        | (refine Hide.out hK _ dyn_s ?_; clear hK K)
        | (refine Hide.out hK _ dyn_a ?_; clear hK K)
        | (refine Hide.out hK _ (dyn_c (Nat.le_of_ble_eq_true rfl)) ?_; clear hK K)
        | (refine draw_x rfl (by simp only [go_sem, *]; rfl) ?_)
        | (refine ⟨_, c1, [], .inl rfl, ?_⟩; simp only [go_sem, *])
        | (refine ⟨_, c1, [], .inr ⟨rfl, flat_of rfl⟩, ?_⟩; simp only [go_sem, *])
        | (refine ⟨_, c1, _, .inl rfl, ?_⟩; simp only [go_sem, *])
        | (refine awp_block ?_)
        | (refine awp_skip ?_)
        | (refine awp_exit ?_)
        | (refine awp_ret ?_)
        | (refine to_normal ?_)
        | (refine to_ret ?_)
        | (refine to_exit ?_)
        | (refine out_normal ?_)
        | (refine out_ret ?_)
        | (refine out_exit ?_)
        | (refine out_exit' rfl ?_)
        | (refine fin_ret ?_)
        | (refine fin_normal ?_)
        | (refine use_hide (by assumption) ?_)
        | (refine And.intro (by omega) ?_)
        | fail)
      all_goals refine retOk_def (by simp [Try.f68, go_sem]) (by simp only [Try.f68, go_sem, *]; rfl) rfl ?_ ?_ ?_
      all_goals try simp only [go_sem, *]
      all_goals try simp [RT.fill, h1, h2, h3, h5]
  · have hd : (RT.deflt o).cs = [.str o.Queue, .int .i64 o.ToStart, .int .i64 o.ToClose, .int .i64 o.Total, .int .i64 o.Beat, .int .i64 o.First, .int .i64 o.Coef, .int .i64 o.Most, .int .i64 o.Attempts, .sl (o.Fatal.map strC)] := by unfold RT.deflt; rw [if_neg hr]; rfl
    have hr' : RT.right o = false := by simpa using hr
    clear ho
    rw [hr'] at c1
    refine spec_of_body Try.func68 rfl rfl (by simp) (fun B w0 => ?_)
    repeat' (first
      | (refine seq_x fun M hM => ?_)
      | (refine awp_region (by kernel_rfl) ?_)
      | (refine awp_draw Try.follow (by kernel_rfl) (by kernel_rfl) ?_)
      | (refine run_o fun K hK => ?_; simp only [go_sem, *])
      | (refine run_nil ?_; refine to_normal ?_)
      | (refine run_nil ?_)
      | (refine Hide.out hK _ ?_; clear hK K)
      | (refine Hide.out hM _ ?_; clear hM M)
      | (refine run_x rfl (by simp only [go_sem, *]; rfl) ?_)
      | (refine gcase_t ?_)
      | (refine gcase_b (fun hb => ?_) (fun hb => ?_) <;> first | (injection hb) | (subst hb) | (simp only [Bool.not_true, Bool.not_false, Bool.not_eq_true', Bool.not_eq_false', Bool.not_eq_true, Bool.not_eq_false, decide_eq_true_eq, decide_eq_false_iff_not] at hb) | skip)
      | (refine fun (K : Out → Prop) hK => ?_; simp only [go_sem, *])
      | (refine fun (b : Bool) (hT : _ → b = false) => ?_)
      | (refine awp_cond _ (by simp only [go_sem, *]; rfl) (fun hb => ?_) (fun hb => ?_) <;> first | (injection hb) | (subst hb) | (simp only [Bool.not_true, Bool.not_false, Bool.not_eq_true', Bool.not_eq_false', Bool.not_eq_true, Bool.not_eq_false, decide_eq_true_eq, decide_eq_false_iff_not] at hb) | skip)
      | (refine draw_o fun K hK => ?_; simp only [go_sem, *])
      | (refine draw_nil ?_; refine to_normal ?_)
      | (refine draw_nil ?_)
      | (refine Hide.out hK _ dyn_v ?_; clear hK K)
      | (refine Hide.out hK _ dyn_m ?_; clear hK K)
      | (refine Hide.out hK _ dyn_b ?_; clear hK K)
      | (refine Hide.out hK _ dyn_p ?_; clear hK K)
      | (refine Hide.out hK _ dyn_s ?_; clear hK K)
      | (refine Hide.out hK _ dyn_a ?_; clear hK K)
      | (refine Hide.out hK _ (dyn_c (Nat.le_of_ble_eq_true rfl)) ?_; clear hK K)
      | (refine draw_x rfl (by simp only [go_sem, *]; rfl) ?_)
      | (refine ⟨_, c1, [], .inl rfl, ?_⟩; simp only [go_sem, *])
      | (refine ⟨_, c1, [], .inr ⟨rfl, flat_of rfl⟩, ?_⟩; simp only [go_sem, *])
      | (refine ⟨_, c1, _, .inl rfl, ?_⟩; simp only [go_sem, *])
      | (refine awp_block ?_)
      | (refine awp_skip ?_)
      | (refine awp_exit ?_)
      | (refine awp_ret ?_)
      | (refine to_normal ?_)
      | (refine to_ret ?_)
      | (refine to_exit ?_)
      | (refine out_normal ?_)
      | (refine out_ret ?_)
      | (refine out_exit ?_)
      | (refine out_exit' rfl ?_)
      | (refine fin_ret ?_)
      | (refine fin_normal ?_)
      | (refine use_hide (by assumption) ?_)
      | (refine And.intro (by omega) ?_)
      | fail)
    all_goals refine retOk_def (by simp [Try.f68, go_sem]) (by simp only [Try.f68, go_sem, *]; rfl) rfl ?_ ?_ ?_
    all_goals try simp only [go_sem, *]
    all_goals try rfl
end Go.Proofs
