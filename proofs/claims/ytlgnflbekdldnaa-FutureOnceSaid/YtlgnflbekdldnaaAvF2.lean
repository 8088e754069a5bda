/- Copies of values. -/
import Derived.Test.YtlgnflbekdldnaaAvF1
import Derived.Test.YtlgnflbekdldnaaAvP
set_option linter.unusedVariables false
set_option linter.unusedSimpArgs false
set_option maxRecDepth 4000
set_option maxHeartbeats 1000000
namespace Go.Proofs
open Go.AV Go.RowKit
attribute [local irreducible] dynOk Out.quiet Out.small AWp aRun dWalk aOut thenA inBlockA retOk retAVs AS.init Out.apply
theorem Try.k203' (l : List GVal) (hl : l.length * 80 ≤ reachBytes) (hc : ∀ x ∈ l, AV.Spec Try.prog 153 [.agg x.cs] [.agg (x.cs.map .c)]) :
    AV.Spec Try.prog 203 [.one (.sl (l.map GVal.cs))] [.one (.c (.sl (l.map GVal.cs)))] := by
  rw [reach_eq] at hl
  refine spec_of_body Try.func203 rfl rfl (by simp) (fun B w0 => ?_)
  repeat' (first
    | (refine seq_x fun M hM => ?_)
    | (refine awp_region (by kernel_rfl) ?_)
    | (refine awp_draw Try.follow (by kernel_rfl) (by kernel_rfl) ?_)
    | (refine run_o fun K hK => ?_; simp only [go_sem, *])
    | (refine run_nil ?_; refine to_normal ?_)
    | (refine run_nil ?_)
    | (refine Hide.out hK _ ?_; clear hK K)
    | (refine Hide.out hM _ ?_; clear hM M)
    | (refine run_x rfl (by simp only [go_sem, *]; rfl) ?_)
    | (refine gcase_t ?_)
    | (refine gcase_b (fun hb => ?_) (fun hb => ?_) <;> first | (injection hb) | (subst hb) | (simp only [Bool.not_true, Bool.not_false, Bool.not_eq_true', Bool.not_eq_false', Bool.not_eq_true, Bool.not_eq_false, decide_eq_true_eq, decide_eq_false_iff_not] at hb) | skip)
    | (refine fun (K : Out → Prop) hK => ?_; simp only [go_sem, *])
    | (refine fun (b : Bool) (hT : _ → b = false) => ?_)
    | (refine awp_cond _ (by simp only [go_sem, *]; rfl) (fun hb => ?_) (fun hb => ?_) <;> first | (injection hb) | (subst hb) | (simp only [Bool.not_true, Bool.not_false, Bool.not_eq_true', Bool.not_eq_false', Bool.not_eq_true, Bool.not_eq_false, decide_eq_true_eq, decide_eq_false_iff_not] at hb) | skip)
    | (refine draw_o fun K hK => ?_; simp only [go_sem, *])
    | (refine draw_nil ?_; refine to_normal ?_)
    | (refine draw_nil ?_)
    | (refine Hide.out hK _ dyn_v ?_; clear hK K)
    | (refine Hide.out hK _ dyn_m ?_; clear hK K)
    | (refine Hide.out hK _ dyn_b ?_; clear hK K)
    | (refine Hide.out hK _ dyn_p ?_; clear hK K)
    | (refine Hide.out hK _ dyn_s ?_; clear hK K)
    | (refine Hide.out hK _ dyn_a ?_; clear hK K)
    | (refine Hide.out hK _ (dyn_c (Nat.le_of_ble_eq_true rfl)) ?_; clear hK K)
    | (refine draw_x rfl (by simp only [go_sem, *]; rfl) ?_)
    | (refine awp_block ?_)
    | (refine awp_skip ?_)
    | (refine awp_exit ?_)
    | (refine awp_ret ?_)
    | (refine to_normal ?_)
    | (refine to_ret ?_)
    | (refine to_exit ?_)
    | (refine out_normal ?_)
    | (refine out_ret ?_)
    | (refine out_exit ?_)
    | (refine out_exit' rfl ?_)
    | (refine fin_ret ?_)
    | (refine fin_normal ?_)
    | (refine use_hide (by assumption) ?_)
    | (refine And.intro (by omega) ?_)
    | fail)
  refine awp_adopt 3 (by simp [Try.f203]) (by simp only [go_sem, *]) 16000 25 5 ?_
  refine awp_loop (fun n s => ∃ k v : Nat, n = l.length - k ∧ k ≤ l.length ∧ s.t 6 = .one (.c (.sl (l.map GVal.cs))) ∧ s.t 7 = .one (.c (.int .i64 (l.length : Nat))) ∧ s.t 8 = .one (.c (.int .i64 (k : Nat))) ∧ s.t 3 = .one (.own 16000 v) ∧ s.H 16000 v = some (.arr 25 5 ((l.take k).map GVal.cs))) l.length
    ⟨0, 0, rfl, Nat.zero_le _, by simp only [go_sem, *], by simp only [go_sem, *], by simp only [go_sem, *]; rfl, by simp only [go_sem, *], by simp only [go_sem, *]⟩ ?_
  rintro n s ⟨k, v, hn, hk, h6, h7, h8, h3, hH⟩
  rcases Nat.lt_or_ge k l.length with hlt | hge
  · have hx := at_map GVal.cs l k hlt
    have hm := List.getElem_mem hlt
    have hs := snoc_map GVal.cs l k hlt
    have hw : IntKind.i64.wrap ((k : Int) + 1) = ((k + 1 : Nat) : Int) := by rw [w64] <;> omega
    generalize l[k] = x at hx hm hs
    repeat' (first
      | (refine seq_x fun M hM => ?_)
      | (refine awp_region (by kernel_rfl) ?_)
      | (refine awp_draw Try.follow (by kernel_rfl) (by kernel_rfl) ?_)
      | (refine run_o fun K hK => ?_; simp only [go_sem, *])
      | (refine run_nil ?_; refine to_normal ?_)
      | (refine run_nil ?_)
      | (refine Hide.out hK _ ?_; clear hK K)
      | (refine Hide.out hM _ ?_; clear hM M)
      | (refine run_x rfl (by simp only [go_sem, *]; rfl) ?_)
      | (refine gcase_t ?_)
      | (refine gcase_b (fun hb => ?_) (fun hb => ?_) <;> first | (injection hb) | (subst hb) | (simp only [Bool.not_true, Bool.not_false, Bool.not_eq_true', Bool.not_eq_false', Bool.not_eq_true, Bool.not_eq_false, decide_eq_true_eq, decide_eq_false_iff_not] at hb) | skip)
      | (refine fun (K : Out → Prop) hK => ?_; simp only [go_sem, *])
      | (refine fun (b : Bool) (hT : _ → b = false) => ?_)
      | (refine awp_cond _ (by simp only [go_sem, *]; rfl) (fun hb => ?_) (fun hb => ?_) <;> first | (injection hb) | (subst hb) | (simp only [Bool.not_true, Bool.not_false, Bool.not_eq_true', Bool.not_eq_false', Bool.not_eq_true, Bool.not_eq_false, decide_eq_true_eq, decide_eq_false_iff_not] at hb) | skip)
      | (refine draw_o fun K hK => ?_; simp only [go_sem, *])
      | (refine draw_nil ?_; refine to_normal ?_)
      | (refine draw_nil ?_)
      | (refine Hide.out hK _ dyn_v ?_; clear hK K)
      | (refine Hide.out hK _ dyn_m ?_; clear hK K)
      | (refine Hide.out hK _ dyn_b ?_; clear hK K)
      | (refine Hide.out hK _ dyn_p ?_; clear hK K)
      | (refine Hide.out hK _ dyn_s ?_; clear hK K)
      | (refine Hide.out hK _ dyn_a ?_; clear hK K)
      | (refine Hide.out hK _ (dyn_c (Nat.le_of_ble_eq_true rfl)) ?_; clear hK K)
      | (refine draw_x rfl (by simp only [go_sem, *]; rfl) ?_)
      | (refine ⟨_, hc x hm, [], .inl rfl, ?_⟩; simp only [go_sem, *])
      | (refine ⟨_, hc x hm, [], .inr ⟨rfl, flat_of rfl⟩, ?_⟩; simp only [go_sem, *])
      | (refine ⟨_, hc x hm, _, .inl rfl, ?_⟩; simp only [go_sem, *])
      | (refine awp_block ?_)
      | (refine awp_skip ?_)
      | (refine awp_exit ?_)
      | (refine awp_ret ?_)
      | (refine to_normal ?_)
      | (refine to_ret ?_)
      | (refine to_exit ?_)
      | (refine out_normal ?_)
      | (refine out_ret ?_)
      | (refine out_exit ?_)
      | (refine out_exit' rfl ?_)
      | (refine fin_ret ?_)
      | (refine fin_normal ?_)
      | (refine use_hide (by assumption) ?_)
      | (refine And.intro (by omega) ?_)
      | fail)
    refine ⟨l.length - (k + 1), by omega, k + 1, s.N 16000, rfl, by omega, ?_, ?_, ?_, ?_, ?_⟩
    all_goals try simp only [go_sem, *]


  · have hge' := nlt_of hge
    have hs := all_map GVal.cs l k hge
    repeat' (first
      | (refine seq_x fun M hM => ?_)
      | (refine awp_region (by kernel_rfl) ?_)
      | (refine awp_draw Try.follow (by kernel_rfl) (by kernel_rfl) ?_)
      | (refine run_o fun K hK => ?_; simp only [go_sem, *])
      | (refine run_nil ?_; refine to_normal ?_)
      | (refine run_nil ?_)
      | (refine Hide.out hK _ ?_; clear hK K)
      | (refine Hide.out hM _ ?_; clear hM M)
      | (refine run_x rfl (by simp only [go_sem, *]; rfl) ?_)
      | (refine gcase_t ?_)
      | (refine gcase_b (fun hb => ?_) (fun hb => ?_) <;> first | (injection hb) | (subst hb) | (simp only [Bool.not_true, Bool.not_false, Bool.not_eq_true', Bool.not_eq_false', Bool.not_eq_true, Bool.not_eq_false, decide_eq_true_eq, decide_eq_false_iff_not] at hb) | skip)
      | (refine fun (K : Out → Prop) hK => ?_; simp only [go_sem, *])
      | (refine fun (b : Bool) (hT : _ → b = false) => ?_)
      | (refine awp_cond _ (by simp only [go_sem, *]; rfl) (fun hb => ?_) (fun hb => ?_) <;> first | (injection hb) | (subst hb) | (simp only [Bool.not_true, Bool.not_false, Bool.not_eq_true', Bool.not_eq_false', Bool.not_eq_true, Bool.not_eq_false, decide_eq_true_eq, decide_eq_false_iff_not] at hb) | skip)
      | (refine draw_o fun K hK => ?_; simp only [go_sem, *])
      | (refine draw_nil ?_; refine to_normal ?_)
      | (refine draw_nil ?_)
      | (refine Hide.out hK _ dyn_v ?_; clear hK K)
      | (refine Hide.out hK _ dyn_m ?_; clear hK K)
      | (refine Hide.out hK _ dyn_b ?_; clear hK K)
      | (refine Hide.out hK _ dyn_p ?_; clear hK K)
      | (refine Hide.out hK _ dyn_s ?_; clear hK K)
      | (refine Hide.out hK _ dyn_a ?_; clear hK K)
      | (refine Hide.out hK _ (dyn_c (Nat.le_of_ble_eq_true rfl)) ?_; clear hK K)
      | (refine draw_x rfl (by simp only [go_sem, *]; rfl) ?_)
      | (refine awp_block ?_)
      | (refine awp_skip ?_)
      | (refine awp_exit ?_)
      | (refine awp_ret ?_)
      | (refine to_normal ?_)
      | (refine to_ret ?_)
      | (refine to_exit ?_)
      | (refine out_normal ?_)
      | (refine out_ret ?_)
      | (refine out_exit ?_)
      | (refine out_exit' rfl ?_)
      | (refine fin_ret ?_)
      | (refine fin_normal ?_)
      | (refine use_hide (by assumption) ?_)
      | (refine And.intro (by omega) ?_)
      | fail)
    refine retOk_def (by simp [Try.f203, go_sem]) (by simp only [Try.f203, go_sem, *]; rfl) rfl ?_ ?_ ?_
    all_goals try simp only [go_sem, *]
theorem Try.k153 (v : GVal) (h : v.ok) : AV.Spec Try.prog 153 [.agg v.cs] [.agg (v.cs.map .c)] := by
  generalize hn : SizeOf.sizeOf v = n
  induction n using Nat.strongRecOn generalizing v with
  | _ n ih =>
    have hi := Try.k203' v.Items (GVal.ok_items h).2 (fun x hx => ih _ (hn ▸ GVal.depthLt v x hx) x ((GVal.ok_items h).1 x hx) rfl)
    have hks := (Try.k136 v.Keys (GVal.ok_keys h).2).c1
    clear ih hn
    refine spec_of_body Try.func153 rfl rfl (by simp) (fun B w0 => ?_)
    repeat' (first
      | (refine seq_x fun M hM => ?_)
      | (refine awp_region (by kernel_rfl) ?_)
      | (refine awp_draw Try.follow (by kernel_rfl) (by kernel_rfl) ?_)
      | (refine run_o fun K hK => ?_; simp only [go_sem, *])
      | (refine run_nil ?_; refine to_normal ?_)
      | (refine run_nil ?_)
      | (refine Hide.out hK _ ?_; clear hK K)
      | (refine Hide.out hM _ ?_; clear hM M)
      | (refine run_x rfl (by simp only [go_sem, *]; rfl) ?_)
      | (refine gcase_t ?_)
      | (refine gcase_b (fun hb => ?_) (fun hb => ?_) <;> first | (injection hb) | (subst hb) | (simp only [Bool.not_true, Bool.not_false, Bool.not_eq_true', Bool.not_eq_false', Bool.not_eq_true, Bool.not_eq_false, decide_eq_true_eq, decide_eq_false_iff_not] at hb) | skip)
      | (refine fun (K : Out → Prop) hK => ?_; simp only [go_sem, *])
      | (refine fun (b : Bool) (hT : _ → b = false) => ?_)
      | (refine awp_cond _ (by simp only [go_sem, *]; rfl) (fun hb => ?_) (fun hb => ?_) <;> first | (injection hb) | (subst hb) | (simp only [Bool.not_true, Bool.not_false, Bool.not_eq_true', Bool.not_eq_false', Bool.not_eq_true, Bool.not_eq_false, decide_eq_true_eq, decide_eq_false_iff_not] at hb) | skip)
      | (refine draw_o fun K hK => ?_; simp only [go_sem, *])
      | (refine draw_nil ?_; refine to_normal ?_)
      | (refine draw_nil ?_)
      | (refine Hide.out hK _ dyn_v ?_; clear hK K)
      | (refine Hide.out hK _ dyn_m ?_; clear hK K)
      | (refine Hide.out hK _ dyn_b ?_; clear hK K)
      | (refine Hide.out hK _ dyn_p ?_; clear hK K)
      | (refine Hide.out hK _ dyn_s ?_; clear hK K)
      | (refine Hide.out hK _ dyn_a ?_; clear hK K)
      | (refine Hide.out hK _ (dyn_c (Nat.le_of_ble_eq_true rfl)) ?_; clear hK K)
      | (refine draw_x rfl (by simp only [go_sem, *]; rfl) ?_)
      | (refine ⟨_, hi, [], .inl rfl, ?_⟩; simp only [go_sem, *])
      | (refine ⟨_, hi, [], .inr ⟨rfl, flat_of rfl⟩, ?_⟩; simp only [go_sem, *])
      | (refine ⟨_, hi, _, .inl rfl, ?_⟩; simp only [go_sem, *])
      | (refine ⟨_, hks, [], .inl rfl, ?_⟩; simp only [go_sem, *])
      | (refine ⟨_, hks, [], .inr ⟨rfl, flat_of rfl⟩, ?_⟩; simp only [go_sem, *])
      | (refine ⟨_, hks, _, .inl rfl, ?_⟩; simp only [go_sem, *])
      | (refine awp_block ?_)
      | (refine awp_skip ?_)
      | (refine awp_exit ?_)
      | (refine awp_ret ?_)
      | (refine to_normal ?_)
      | (refine to_ret ?_)
      | (refine to_exit ?_)
      | (refine out_normal ?_)
      | (refine out_ret ?_)
      | (refine out_exit ?_)
      | (refine out_exit' rfl ?_)
      | (refine fin_ret ?_)
      | (refine fin_normal ?_)
      | (refine use_hide (by assumption) ?_)
      | (refine And.intro (by omega) ?_)
      | fail)
    refine retOk_def (by simp [Try.f153, go_sem]) (by simp only [Try.f153, go_sem, *]; rfl) rfl ?_ ?_ ?_
    all_goals try simp only [go_sem, *]
theorem Try.k203 (l : List GVal) (hl : l.length * 80 ≤ reachBytes) (hc : ∀ x ∈ l, x.ok) : AV.Spec Try.prog 203 [.one (.sl (l.map GVal.cs))] [.one (.c (.sl (l.map GVal.cs)))] :=
  Try.k203' l hl (fun x hx => Try.k153 x (hc x hx))
end Go.Proofs
