/- Equality of values by the document's answer; how much a value holds. -/
import Derived.Test.YtlgnflbekdldnaaAvF2
set_option linter.unusedVariables false
set_option linter.unusedSimpArgs false
set_option maxRecDepth 4000
set_option maxHeartbeats 1000000
namespace Go.Proofs
open Go.AV Go.RowKit
attribute [local irreducible] dynOk Out.quiet Out.small AWp aRun dWalk aOut thenA inBlockA retOk retAVs AS.init Out.apply
theorem Try.k56 (a b : GVal) (ha : a.ok) : AV.Spec Try.prog 56 [.agg a.cs, .agg b.cs] [.one (.c (.bool (decide (a = b))))] := by
  generalize hn : SizeOf.sizeOf a = n
  induction n using Nat.strongRecOn generalizing a b with
  | _ n ih =>
    have hrec : ∀ x ∈ a.Items, ∀ y ∈ b.Items, AV.Spec Try.prog 56 [.agg x.cs, .agg y.cs] [.one (.c (.bool (decide (x = y))))] :=
      fun x hx y hy => ih _ (hn ▸ GVal.depthLt a x hx) x y ((GVal.ok_items ha).1 x hx) rfl
    clear ih hn
    have hi := (GVal.ok_items ha).2
    have hks := (GVal.ok_keys ha).2
    rw [reach_eq] at hi hks
    clear ha
    refine spec_of_body Try.func56 rfl rfl (by simp) (fun B w0 => ?_)
    repeat' (first
      | (refine seq_x fun M hM => ?_)
      | (refine awp_region (by kernel_rfl) ?_)
      | (refine awp_draw Try.follow (by kernel_rfl) (by kernel_rfl) ?_)
      | (refine run_o fun K hK => ?_; simp only [go_sem, *])
      | (refine run_nil ?_; refine to_normal ?_)
      | (refine run_nil ?_)
      | (refine Hide.out hK _ ?_; clear hK K)
      | (refine Hide.out hM _ ?_; clear hM M)
      | (refine run_x rfl (by simp only [go_sem, *]; rfl) ?_)
      | (refine gcase_t ?_)
      | (refine gcase_b (fun hb => ?_) (fun hb => ?_) <;> first | (injection hb) | (subst hb) | (simp only [Bool.not_true, Bool.not_false, Bool.not_eq_true', Bool.not_eq_false', Bool.not_eq_true, Bool.not_eq_false, decide_eq_true_eq, decide_eq_false_iff_not] at hb) | skip)
      | (refine fun (K : Out → Prop) hK => ?_; simp only [go_sem, *])
      | (refine fun (b : Bool) (hT : _ → b = false) => ?_)
      | (refine awp_cond _ (by simp only [go_sem, *]; rfl) (fun hb => ?_) (fun hb => ?_) <;> first | (injection hb) | (subst hb) | (simp only [Bool.not_true, Bool.not_false, Bool.not_eq_true', Bool.not_eq_false', Bool.not_eq_true, Bool.not_eq_false, decide_eq_true_eq, decide_eq_false_iff_not] at hb) | skip)
      | (refine draw_o fun K hK => ?_; simp only [go_sem, *])
      | (refine draw_nil ?_; refine to_normal ?_)
      | (refine draw_nil ?_)
      | (refine Hide.out hK _ dyn_v ?_; clear hK K)
      | (refine Hide.out hK _ dyn_m ?_; clear hK K)
      | (refine Hide.out hK _ dyn_b ?_; clear hK K)
      | (refine Hide.out hK _ dyn_p ?_; clear hK K)
      | (refine Hide.out hK _ dyn_s ?_; clear hK K)
      | (refine Hide.out hK _ dyn_a ?_; clear hK K)
      | (refine Hide.out hK _ (dyn_c (Nat.le_of_ble_eq_true rfl)) ?_; clear hK K)
      | (refine draw_x rfl (by simp only [go_sem, *]; rfl) ?_)
      | (refine awp_block ?_)
      | (refine awp_skip ?_)
      | (refine awp_exit ?_)
      | (refine awp_ret ?_)
      | (refine to_normal ?_)
      | (refine to_ret ?_)
      | (refine to_exit ?_)
      | (refine out_normal ?_)
      | (refine out_ret ?_)
      | (refine out_exit ?_)
      | (refine out_exit' rfl ?_)
      | (refine fin_ret ?_)
      | (refine fin_normal ?_)
      | (refine use_hide (by assumption) ?_)
      | (refine And.intro (by omega) ?_)
      | fail)
    all_goals first
      | (refine retOk_def (by simp [Try.f56, go_sem]) (by simp only [Try.f56, go_sem, *]; rfl) rfl ?_ ?_ ?_ <;> simp only [go_sem, *] <;> (refine congrArg C.bool (decide_eq_false (fun e => ?_)).symm; subst e; exact absurd rfl (by assumption)))
      | skip
    refine awp_loop (fun n s => ∃ k : Nat, n = a.Keys.length - k ∧ k ≤ a.Keys.length ∧ (∀ j (ha : j < a.Keys.length) (hb : j < b.Keys.length), j < k → decide (a.Keys[j] = b.Keys[j]) = true) ∧ s.t 2 = .one (.ptr 2000 0 0) ∧ s.H 2000 0 = some (.box (a.cs.map .c)) ∧ s.t 3 = .one (.ptr 3000 0 0) ∧ s.H 3000 0 = some (.box (b.cs.map .c)) ∧ s.t 5 = .one (.c (.int .i64 (k : Nat)))) a.Keys.length
      ⟨0, rfl, Nat.zero_le _, fun j h1 h2 hj => absurd hj (Nat.not_lt_zero j), by simp only [go_sem, *], by simp only [go_sem, *], by simp only [go_sem, *], by simp only [go_sem, *], by simp only [go_sem, *]; rfl⟩ ?_
    rintro n s ⟨k, hn', hk, hall, h2, hA, h3, hB, h8⟩
    rcases Nat.lt_or_ge k a.Keys.length with hlt | hge
    · have hlb : k < b.Keys.length := by omega
      have hnext : decide (a.Keys[k] = b.Keys[k]) = true → ∀ j (ha : j < a.Keys.length) (hb : j < b.Keys.length), j < k + 1 → decide (a.Keys[j] = b.Keys[j]) = true := fun e j h1 h2 hj => (Nat.lt_succ_iff_lt_or_eq.1 hj).elim (hall j h1 h2) (fun e2 => by subst e2; exact e)
      have hnot : ¬ a.Keys[k] = b.Keys[k] → ¬ a.Keys = b.Keys := fun e e2 => e (by simp only [e2])
      have hx : (a.Keys.map strC).getD k [] = [C.str a.Keys[k]] := at_map strC a.Keys k hlt
      have gx : (b.Keys.map strC).getD k [] = [C.str b.Keys[k]] := at_map strC b.Keys k hlb
      have hm := List.getElem_mem hlt
      have gm := List.getElem_mem hlb
      have hw : IntKind.i64.wrap ((k : Int) + 1) = ((k + 1 : Nat) : Int) := by rw [w64] <;> omega
      clear hall
      have hN : Hide (decide (a.Keys[k] = b.Keys[k]) = true → ∀ j (ha : j < a.Keys.length) (hb : j < b.Keys.length), j < k + 1 → decide (a.Keys[j] = b.Keys[j]) = true) := ⟨hnext⟩
      clear hnext
      have hF : Hide (¬ a.Keys[k] = b.Keys[k] → ¬ a.Keys = b.Keys) := ⟨hnot⟩
      clear hnot
      generalize a.Keys[k] = x at hx hm hN hF
      generalize b.Keys[k] = y at gx gm hN hF
      repeat' (first
        | (refine seq_x fun M hM => ?_)
        | (refine awp_region (by kernel_rfl) ?_)
        | (refine awp_draw Try.follow (by kernel_rfl) (by kernel_rfl) ?_)
        | (refine run_o fun K hK => ?_; simp only [go_sem, *])
        | (refine run_nil ?_; refine to_normal ?_)
        | (refine run_nil ?_)
        | (refine Hide.out hK _ ?_; clear hK K)
        | (refine Hide.out hM _ ?_; clear hM M)
        | (refine run_x rfl (by simp only [go_sem, *]; rfl) ?_)
        | (refine gcase_t ?_)
        | (refine gcase_b (fun hb => ?_) (fun hb => ?_) <;> first | (injection hb) | (subst hb) | (simp only [Bool.not_true, Bool.not_false, Bool.not_eq_true', Bool.not_eq_false', Bool.not_eq_true, Bool.not_eq_false, decide_eq_true_eq, decide_eq_false_iff_not] at hb) | skip)
        | (refine fun (K : Out → Prop) hK => ?_; simp only [go_sem, *])
        | (refine fun (b : Bool) (hT : _ → b = false) => ?_)
        | (refine awp_cond _ (by simp only [go_sem, *]; rfl) (fun hb => ?_) (fun hb => ?_) <;> first | (injection hb) | (subst hb) | (simp only [Bool.not_true, Bool.not_false, Bool.not_eq_true', Bool.not_eq_false', Bool.not_eq_true, Bool.not_eq_false, decide_eq_true_eq, decide_eq_false_iff_not] at hb) | skip)
        | (refine draw_o fun K hK => ?_; simp only [go_sem, *])
        | (refine draw_nil ?_; refine to_normal ?_)
        | (refine draw_nil ?_)
        | (refine Hide.out hK _ dyn_v ?_; clear hK K)
        | (refine Hide.out hK _ dyn_m ?_; clear hK K)
        | (refine Hide.out hK _ dyn_b ?_; clear hK K)
        | (refine Hide.out hK _ dyn_p ?_; clear hK K)
        | (refine Hide.out hK _ dyn_s ?_; clear hK K)
        | (refine Hide.out hK _ dyn_a ?_; clear hK K)
        | (refine Hide.out hK _ (dyn_c (Nat.le_of_ble_eq_true rfl)) ?_; clear hK K)
        | (refine draw_x rfl (by simp only [go_sem, *]; rfl) ?_)
        | (refine awp_block ?_)
        | (refine awp_skip ?_)
        | (refine awp_exit ?_)
        | (refine awp_ret ?_)
        | (refine to_normal ?_)
        | (refine to_ret ?_)
        | (refine to_exit ?_)
        | (refine out_normal ?_)
        | (refine out_ret ?_)
        | (refine out_exit ?_)
        | (refine out_exit' rfl ?_)
        | (refine fin_ret ?_)
        | (refine fin_normal ?_)
        | (refine use_hide (by assumption) ?_)
        | (refine And.intro (by omega) ?_)
        | fail)
      all_goals first
        | (refine retOk_def (by simp [Try.f56, go_sem]) (by simp only [Try.f56, go_sem, *]; rfl) rfl ?_ ?_ ?_ <;> simp only [go_sem, *] <;> (refine congrArg C.bool (decide_eq_false (fun e => hF.out (by assumption) (by rw [e]))).symm))
        | (refine ⟨a.Keys.length - (k + 1), by omega, k + 1, rfl, by omega, hN.out (decide_eq_true (by assumption)), ?_, ?_, ?_, ?_, ?_⟩ <;> simp only [go_sem, *])
    · have hge' := nlt_of hge
      have hgeb : ¬ k < b.Keys.length := by omega
      have hyes : Hide (a.Keys = b.Keys) := ⟨List.ext_getElem (by omega) (fun j h1 h2 => by simpa using hall j h1 h2 (by omega))⟩
      clear hall
      repeat' (first
        | (refine seq_x fun M hM => ?_)
        | (refine awp_region (by kernel_rfl) ?_)
        | (refine awp_draw Try.follow (by kernel_rfl) (by kernel_rfl) ?_)
        | (refine run_o fun K hK => ?_; simp only [go_sem, *])
        | (refine run_nil ?_; refine to_normal ?_)
        | (refine run_nil ?_)
        | (refine Hide.out hK _ ?_; clear hK K)
        | (refine Hide.out hM _ ?_; clear hM M)
        | (refine run_x rfl (by simp only [go_sem, *]; rfl) ?_)
        | (refine gcase_t ?_)
        | (refine gcase_b (fun hb => ?_) (fun hb => ?_) <;> first | (injection hb) | (subst hb) | (simp only [Bool.not_true, Bool.not_false, Bool.not_eq_true', Bool.not_eq_false', Bool.not_eq_true, Bool.not_eq_false, decide_eq_true_eq, decide_eq_false_iff_not] at hb) | skip)
        | (refine fun (K : Out → Prop) hK => ?_; simp only [go_sem, *])
        | (refine fun (b : Bool) (hT : _ → b = false) => ?_)
        | (refine awp_cond _ (by simp only [go_sem, *]; rfl) (fun hb => ?_) (fun hb => ?_) <;> first | (injection hb) | (subst hb) | (simp only [Bool.not_true, Bool.not_false, Bool.not_eq_true', Bool.not_eq_false', Bool.not_eq_true, Bool.not_eq_false, decide_eq_true_eq, decide_eq_false_iff_not] at hb) | skip)
        | (refine draw_o fun K hK => ?_; simp only [go_sem, *])
        | (refine draw_nil ?_; refine to_normal ?_)
        | (refine draw_nil ?_)
        | (refine Hide.out hK _ dyn_v ?_; clear hK K)
        | (refine Hide.out hK _ dyn_m ?_; clear hK K)
        | (refine Hide.out hK _ dyn_b ?_; clear hK K)
        | (refine Hide.out hK _ dyn_p ?_; clear hK K)
        | (refine Hide.out hK _ dyn_s ?_; clear hK K)
        | (refine Hide.out hK _ dyn_a ?_; clear hK K)
        | (refine Hide.out hK _ (dyn_c (Nat.le_of_ble_eq_true rfl)) ?_; clear hK K)
        | (refine draw_x rfl (by simp only [go_sem, *]; rfl) ?_)
        | (refine awp_block ?_)
        | (refine awp_skip ?_)
        | (refine awp_exit ?_)
        | (refine awp_ret ?_)
        | (refine to_normal ?_)
        | (refine to_ret ?_)
        | (refine to_exit ?_)
        | (refine out_normal ?_)
        | (refine out_ret ?_)
        | (refine out_exit ?_)
        | (refine out_exit' rfl ?_)
        | (refine fin_ret ?_)
        | (refine fin_normal ?_)
        | (refine use_hide (by assumption) ?_)
        | (refine And.intro (by omega) ?_)
        | fail)

      have hyK := hyes
      clear hyes hge' hgeb hge
      refine awp_loop (fun n s => ∃ k : Nat, n = a.Items.length - k ∧ k ≤ a.Items.length ∧ (∀ j (ha : j < a.Items.length) (hb : j < b.Items.length), j < k → decide (a.Items[j] = b.Items[j]) = true) ∧ s.t 2 = .one (.ptr 2000 0 0) ∧ s.H 2000 0 = some (.box (a.cs.map .c)) ∧ s.t 3 = .one (.ptr 3000 0 0) ∧ s.H 3000 0 = some (.box (b.cs.map .c)) ∧ s.t 6 = .one (.c (.int .i64 (k : Nat)))) a.Items.length
        ⟨0, rfl, Nat.zero_le _, fun j h1 h2 hj => absurd hj (Nat.not_lt_zero j), by simp only [go_sem, *], by simp only [go_sem, *], by simp only [go_sem, *], by simp only [go_sem, *], by simp only [go_sem, *]; rfl⟩ ?_
      rintro n s ⟨k, hn', hk, hall, h2, hA, h3, hB, h8⟩
      rcases Nat.lt_or_ge k a.Items.length with hlt | hge
      · have hlb : k < b.Items.length := by omega
        have hnext : decide (a.Items[k] = b.Items[k]) = true → ∀ j (ha : j < a.Items.length) (hb : j < b.Items.length), j < k + 1 → decide (a.Items[j] = b.Items[j]) = true := fun e j h1 h2 hj => (Nat.lt_succ_iff_lt_or_eq.1 hj).elim (hall j h1 h2) (fun e2 => by subst e2; exact e)
        have hnot : ¬ a.Items[k] = b.Items[k] → ¬ a.Items = b.Items := fun e e2 => e (by simp only [e2])
        have hx : (a.Items.map GVal.cs).getD k [] = GVal.cs a.Items[k] := at_map GVal.cs a.Items k hlt
        have gx : (b.Items.map GVal.cs).getD k [] = GVal.cs b.Items[k] := at_map GVal.cs b.Items k hlb
        have hm := List.getElem_mem hlt
        have gm := List.getElem_mem hlb
        have hw : IntKind.i64.wrap ((k : Int) + 1) = ((k + 1 : Nat) : Int) := by rw [w64] <;> omega
        clear hall
        have hN : Hide (decide (a.Items[k] = b.Items[k]) = true → ∀ j (ha : j < a.Items.length) (hb : j < b.Items.length), j < k + 1 → decide (a.Items[j] = b.Items[j]) = true) := ⟨hnext⟩
        clear hnext
        have hF : Hide (¬ a.Items[k] = b.Items[k] → ¬ a.Items = b.Items) := ⟨hnot⟩
        clear hnot
        generalize a.Items[k] = x at hx hm hN hF
        generalize b.Items[k] = y at gx gm hN hF
        have hs := hrec x hm y gm
        repeat' (first
          | (refine seq_x fun M hM => ?_)
          | (refine awp_region (by kernel_rfl) ?_)
          | (refine awp_draw Try.follow (by kernel_rfl) (by kernel_rfl) ?_)
          | (refine run_o fun K hK => ?_; simp only [go_sem, *])
          | (refine run_nil ?_; refine to_normal ?_)
          | (refine run_nil ?_)
          | (refine Hide.out hK _ ?_; clear hK K)
          | (refine Hide.out hM _ ?_; clear hM M)
          | (refine run_x rfl (by simp only [go_sem, *]; rfl) ?_)
          | (refine gcase_t ?_)
          | (refine gcase_b (fun hb => ?_) (fun hb => ?_) <;> first | (injection hb) | (subst hb) | (simp only [Bool.not_true, Bool.not_false, Bool.not_eq_true', Bool.not_eq_false', Bool.not_eq_true, Bool.not_eq_false, decide_eq_true_eq, decide_eq_false_iff_not] at hb) | skip)
          | (refine fun (K : Out → Prop) hK => ?_; simp only [go_sem, *])
          | (refine fun (b : Bool) (hT : _ → b = false) => ?_)
          | (refine awp_cond _ (by simp only [go_sem, *]; rfl) (fun hb => ?_) (fun hb => ?_) <;> first | (injection hb) | (subst hb) | (simp only [Bool.not_true, Bool.not_false, Bool.not_eq_true', Bool.not_eq_false', Bool.not_eq_true, Bool.not_eq_false, decide_eq_true_eq, decide_eq_false_iff_not] at hb) | skip)
          | (refine draw_o fun K hK => ?_; simp only [go_sem, *])
          | (refine draw_nil ?_; refine to_normal ?_)
          | (refine draw_nil ?_)
          | (refine Hide.out hK _ dyn_v ?_; clear hK K)
          | (refine Hide.out hK _ dyn_m ?_; clear hK K)
          | (refine Hide.out hK _ dyn_b ?_; clear hK K)
          | (refine Hide.out hK _ dyn_p ?_; clear hK K)
          | (refine Hide.out hK _ dyn_s ?_; clear hK K)
          | (refine Hide.out hK _ dyn_a ?_; clear hK K)
          | (refine Hide.out hK _ (dyn_c (Nat.le_of_ble_eq_true rfl)) ?_; clear hK K)
          | (refine draw_x rfl (by simp only [go_sem, *]; rfl) ?_)
          | (refine ⟨_, hs, [], .inl rfl, ?_⟩; simp only [go_sem, *])
          | (refine ⟨_, hs, [], .inr ⟨rfl, flat_of rfl⟩, ?_⟩; simp only [go_sem, *])
          | (refine ⟨_, hs, _, .inl rfl, ?_⟩; simp only [go_sem, *])
          | (refine awp_block ?_)
          | (refine awp_skip ?_)
          | (refine awp_exit ?_)
          | (refine awp_ret ?_)
          | (refine to_normal ?_)
          | (refine to_ret ?_)
          | (refine to_exit ?_)
          | (refine out_normal ?_)
          | (refine out_ret ?_)
          | (refine out_exit ?_)
          | (refine out_exit' rfl ?_)
          | (refine fin_ret ?_)
          | (refine fin_normal ?_)
          | (refine use_hide (by assumption) ?_)
          | (refine And.intro (by omega) ?_)
          | fail)
        all_goals first
          | (refine retOk_def (by simp [Try.f56, go_sem]) (by simp only [Try.f56, go_sem, *]; rfl) rfl ?_ ?_ ?_ <;> simp only [go_sem, *] <;> (refine congrArg C.bool (decide_eq_false (fun e => hF.out (by assumption) (by rw [e]))).symm))
          | (refine ⟨a.Items.length - (k + 1), by omega, k + 1, rfl, by omega, hN.out (decide_eq_true (by assumption)), ?_, ?_, ?_, ?_, ?_⟩ <;> simp only [go_sem, *])
      · have hge' := nlt_of hge
        have hgeb : ¬ k < b.Items.length := by omega
        have hyes : Hide (a.Items = b.Items) := ⟨List.ext_getElem (by omega) (fun j h1 h2 => by simpa using hall j h1 h2 (by omega))⟩
        clear hall
        repeat' (first
          | (refine seq_x fun M hM => ?_)
          | (refine awp_region (by kernel_rfl) ?_)
          | (refine awp_draw Try.follow (by kernel_rfl) (by kernel_rfl) ?_)
          | (refine run_o fun K hK => ?_; simp only [go_sem, *])
          | (refine run_nil ?_; refine to_normal ?_)
          | (refine run_nil ?_)
          | (refine Hide.out hK _ ?_; clear hK K)
          | (refine Hide.out hM _ ?_; clear hM M)
          | (refine run_x rfl (by simp only [go_sem, *]; rfl) ?_)
          | (refine gcase_t ?_)
          | (refine gcase_b (fun hb => ?_) (fun hb => ?_) <;> first | (injection hb) | (subst hb) | (simp only [Bool.not_true, Bool.not_false, Bool.not_eq_true', Bool.not_eq_false', Bool.not_eq_true, Bool.not_eq_false, decide_eq_true_eq, decide_eq_false_iff_not] at hb) | skip)
          | (refine fun (K : Out → Prop) hK => ?_; simp only [go_sem, *])
          | (refine fun (b : Bool) (hT : _ → b = false) => ?_)
          | (refine awp_cond _ (by simp only [go_sem, *]; rfl) (fun hb => ?_) (fun hb => ?_) <;> first | (injection hb) | (subst hb) | (simp only [Bool.not_true, Bool.not_false, Bool.not_eq_true', Bool.not_eq_false', Bool.not_eq_true, Bool.not_eq_false, decide_eq_true_eq, decide_eq_false_iff_not] at hb) | skip)
          | (refine draw_o fun K hK => ?_; simp only [go_sem, *])
          | (refine draw_nil ?_; refine to_normal ?_)
          | (refine draw_nil ?_)
          | (refine Hide.out hK _ dyn_v ?_; clear hK K)
          | (refine Hide.out hK _ dyn_m ?_; clear hK K)
          | (refine Hide.out hK _ dyn_b ?_; clear hK K)
          | (refine Hide.out hK _ dyn_p ?_; clear hK K)
          | (refine Hide.out hK _ dyn_s ?_; clear hK K)
          | (refine Hide.out hK _ dyn_a ?_; clear hK K)
          | (refine Hide.out hK _ (dyn_c (Nat.le_of_ble_eq_true rfl)) ?_; clear hK K)
          | (refine draw_x rfl (by simp only [go_sem, *]; rfl) ?_)
          | (refine awp_block ?_)
          | (refine awp_skip ?_)
          | (refine awp_exit ?_)
          | (refine awp_ret ?_)
          | (refine to_normal ?_)
          | (refine to_ret ?_)
          | (refine to_exit ?_)
          | (refine out_normal ?_)
          | (refine out_ret ?_)
          | (refine out_exit ?_)
          | (refine out_exit' rfl ?_)
          | (refine fin_ret ?_)
          | (refine fin_normal ?_)
          | (refine use_hide (by assumption) ?_)
          | (refine And.intro (by omega) ?_)
          | fail)

        all_goals refine retOk_def (by simp [Try.f56, go_sem]) (by simp only [Try.f56, go_sem, *]; rfl) rfl ?_ ?_ ?_
        all_goals simp only [go_sem, *]
        all_goals exact congrArg C.bool (decide_eq_true ((GVal.eq_iff a b).2 ⟨by assumption, by assumption, by assumption, hyes.out, hyK.out⟩)).symm
end Go.Proofs
