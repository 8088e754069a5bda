/- Layer 34: RetryEnds. -/
import Derived.Test.YtlgnflbekdldnaaAvF21
import Derived.Test.YtlgnflbekdldnaaAvQ3
set_option linter.unusedVariables false
set_option linter.unusedSimpArgs false
set_option maxRecDepth 4000
set_option maxHeartbeats 1000000
namespace Go.Proofs
open Go.AV Go.RowKit
attribute [local irreducible] dynOk Out.quiet Out.small AWp aRun dWalk aOut thenA inBlockA retOk retAVs AS.init Out.apply
theorem Try.k12 (o : GPolicy) (ho : o.ok) (n : Int) (hn : IntKind.u8.wrap n = n) (m : Int) (hm : IntKind.u8.wrap m = m) (f : ByteArray) (l : List Int) (hl : ∀ z ∈ l, IntKind.u16.wrap z = z) :
    AV.Spec Try.prog 12 [.agg o.cs, .one (.int .u8 n), .one (.int .u8 m), .one (.str f), .one (.sl (l.map u16C))] [.one (.c (.bool true))] := by
  have c1 := Try.k57 o (RT.ok_fatal ho)
  have c2 := Try.k58
  have c3 := Try.k65 o ho
  by_cases hq : l.length = 2 ∧ RT.right o = true ∧ ¬ (¬ o.Coef = 0 ∧ o.Coef < 100)
  case neg =>
    have hq' : ¬ (l.length : Int) = 2 ∨ (l.length : Int) = 2 ∧ RT.right o = false ∨ (l.length : Int) = 2 ∧ RT.right o = true ∧ ¬ o.Coef = 0 ∧ o.Coef < 100 := by
      by_cases h1 : l.length = 2
      · have h1' : (l.length : Int) = 2 := by omega
        cases h2 : RT.right o
        · exact .inr (.inl ⟨h1', rfl⟩)
        · refine .inr (.inr ⟨h1', rfl, ?_⟩)
          by_cases h3 : ¬ o.Coef = 0 ∧ o.Coef < 100
          · exact h3
          · exact absurd ⟨h1, h2, h3⟩ hq
      · exact .inl (by omega)
    clear hq ho hn hm hl
    rcases hq' with h1 | ⟨h1, h2⟩ | ⟨h1, h2, h3, h4⟩
    all_goals
      refine spec_of_body Try.func12 rfl rfl (by simp) (fun B w0 => ?_)
      repeat' (first
        | (refine seq_x fun M hM => ?_)
        | (refine awp_region (by kernel_rfl) ?_)
        | (refine awp_draw Try.follow (by kernel_rfl) (by kernel_rfl) ?_)
        | (refine run_o fun K hK => ?_; simp only [go_sem, *])
        | (refine run_nil ?_; refine to_normal ?_)
        | (refine run_nil ?_)
        | (refine Hide.out hK _ ?_; clear hK K)
        | (refine Hide.out hM _ ?_; clear hM M)
        | (refine run_x rfl (by simp only [go_sem, *]; rfl) ?_)
        | (refine gcase_t ?_)
        | (refine gcase_b (fun hb => ?_) (fun hb => ?_) <;> first | (injection hb) | (subst hb) | (simp only [Bool.not_true, Bool.not_false, Bool.not_eq_true', Bool.not_eq_false', Bool.not_eq_true, Bool.not_eq_false, decide_eq_true_eq, decide_eq_false_iff_not] at hb) | skip)
        | (refine fun (K : Out → Prop) hK => ?_; simp only [go_sem, *])
        | (refine fun (b : Bool) (hT : _ → b = false) => ?_)
        | (refine awp_cond _ (by simp only [go_sem, *]; rfl) (fun hb => ?_) (fun hb => ?_) <;> first | (injection hb) | (subst hb) | (simp only [Bool.not_true, Bool.not_false, Bool.not_eq_true', Bool.not_eq_false', Bool.not_eq_true, Bool.not_eq_false, decide_eq_true_eq, decide_eq_false_iff_not] at hb) | skip)
        | (refine draw_o fun K hK => ?_; simp only [go_sem, *])
        | (refine draw_nil ?_; refine to_normal ?_)
        | (refine draw_nil ?_)
        | (refine Hide.out hK _ dyn_v ?_; clear hK K)
        | (refine Hide.out hK _ dyn_m ?_; clear hK K)
        | (refine Hide.out hK _ dyn_b ?_; clear hK K)
        | (refine Hide.out hK _ dyn_p ?_; clear hK K)
        | (refine Hide.out hK _ dyn_s ?_; clear hK K)
        | (refine Hide.out hK _ dyn_a ?_; clear hK K)
        | (refine Hide.out hK _ (dyn_c (Nat.le_of_ble_eq_true rfl)) ?_; clear hK K)
        | (refine draw_x rfl (by simp only [go_sem, *]; rfl) ?_)
        | (refine ⟨_, c1, [], .inl rfl, ?_⟩; simp only [go_sem, *])
        | (refine ⟨_, c1, [], .inr ⟨rfl, flat_of rfl⟩, ?_⟩; simp only [go_sem, *])
        | (refine ⟨_, c1, _, .inl rfl, ?_⟩; simp only [go_sem, *])
        | (refine ⟨_, c2, [], .inl rfl, ?_⟩; simp only [go_sem, *])
        | (refine ⟨_, c2, [], .inr ⟨rfl, flat_of rfl⟩, ?_⟩; simp only [go_sem, *])
        | (refine ⟨_, c2, _, .inl rfl, ?_⟩; simp only [go_sem, *])
        | (refine ⟨_, c3, [], .inl rfl, ?_⟩; simp only [go_sem, *])
        | (refine ⟨_, c3, [], .inr ⟨rfl, flat_of rfl⟩, ?_⟩; simp only [go_sem, *])
        | (refine ⟨_, c3, _, .inl rfl, ?_⟩; simp only [go_sem, *])
        | (refine awp_block ?_)
        | (refine awp_skip ?_)
        | (refine awp_exit ?_)
        | (refine awp_ret ?_)
        | (refine to_normal ?_)
        | (refine to_ret ?_)
        | (refine to_exit ?_)
        | (refine out_normal ?_)
        | (refine out_ret ?_)
        | (refine out_exit ?_)
        | (refine out_exit' rfl ?_)
        | (refine fin_ret ?_)
        | (refine fin_normal ?_)
        | (refine use_hide (by assumption) ?_)
        | (refine And.intro (by omega) ?_)
        | fail)
      all_goals refine retOk_def (by simp [Try.f12, go_sem]) (by simp only [Try.f12, go_sem, *]; rfl) rfl ?_ ?_ ?_
      all_goals simp only [go_sem, *]
  obtain ⟨h1, h2, h3⟩ := hq
  obtain ⟨s, t, rfl⟩ : ∃ s t, l = [s, t] := by
    match l, h1 with
    | [s, t], _ => exact ⟨s, t, rfl⟩
  have hs : 0 ≤ s ∧ s ≤ 65535 := (wrap_iff .u16 s).1 (hl s (by simp))
  have ht : 0 ≤ t ∧ t ≤ 65535 := (wrap_iff .u16 t).1 (hl t (by simp))
  have n0 : ∀ {p : Prop}, (0 : Int) < 0 → p := fun h => absurd h (by decide)
  have hn2 : 0 ≤ n ∧ n ≤ 255 := (wrap_iff .u8 n).1 hn
  have hm2 : 0 ≤ m ∧ m ≤ 255 := (wrap_iff .u8 m).1 hm
  have hr0 := Int.tmod_nonneg 40 hn2.1
  have hr1 : n.tmod 40 < 40 := Int.tmod_lt_of_pos n (by decide)
  have hr2 := Int.tmod_nonneg 20 hm2.1
  have hr3 : m.tmod 20 < 20 := Int.tmod_lt_of_pos m (by decide)
  have hw0 : IntKind.i64.wrap n = n := by rw [w64] <;> omega
  have hw1 : IntKind.i64.wrap (n.tmod 40) = n.tmod 40 := by rw [w64] <;> omega
  have hw4 : IntKind.i64.wrap m = m := by rw [w64] <;> omega
  have hw5 : IntKind.i64.wrap (m.tmod 20) = m.tmod 20 := by rw [w64] <;> omega
  have hw6 : IntKind.i64.wrap s = s := by rw [w64] <;> omega
  have hw7 : IntKind.i64.wrap t = t := by rw [w64] <;> omega
  have hw8 : IntKind.i64.wrap (s + t) = s + t := by rw [w64] <;> omega
  obtain ⟨k, hk⟩ : ∃ k, 1 + n.tmod 40 = k := ⟨_, rfl⟩
  have hw2 : IntKind.i64.wrap (1 + n.tmod 40) = k := by rw [hk, w64] <;> omega
  have hw3 : IntKind.i64.wrap (k + m.tmod 20) = k + m.tmod 20 := by rw [w64] <;> omega
  have hx0 : ([s, t].map u16C).getD 0 [] = [.int .u16 s] := rfl
  have hx1 : ([s, t].map u16C).getD 1 [] = [.int .u16 t] := rfl
  have hlen : ([s, t].map u16C).length = 2 := rfl
  have hu : ∀ z, u16C z = [.int .u16 z] := fun _ => rfl
  have c4 := Try.k61 o ho k f s 0 0 hw6 n0
  have c5 := Try.k61 o ho (k + m.tmod 20) f (s + t) 0 0 hw8 n0
  have he := RT.ends h2 h3 f (k := k) (l := k + m.tmod 20) (s := s) (t := s + t) (by omega) (by omega) hs.1 (by omega)
  have h3' : o.Coef = 0 ∨ ¬ o.Coef = 0 ∧ ¬ o.Coef < 100 := by omega
  rw [h2] at c3
  clear ho hn hm hl hs ht hn2 hm2 hr0 hr1 hr2 hr3 hk h3 n0 h1
  generalize RT.again o k f s 0 0 = x at c4 he
  generalize RT.again o (k + m.tmod 20) f (s + t) 0 0 = y at c5 he
  obtain ⟨x1, x2⟩ := x
  obtain ⟨y1, y2⟩ := y
  simp only at c4 c5 he
  rcases h3' with h3 | ⟨h3, h4⟩
  all_goals rcases he with rfl | rfl
  all_goals
    refine spec_of_body Try.func12 rfl rfl (by simp) (fun B w0 => ?_)
    repeat' (first
      | (refine seq_x fun M hM => ?_)
      | (refine awp_region (by kernel_rfl) ?_)
      | (refine awp_draw Try.follow (by kernel_rfl) (by kernel_rfl) ?_)
      | (refine run_o fun K hK => ?_; simp only [go_sem, *])
      | (refine run_nil ?_; refine to_normal ?_)
      | (refine run_nil ?_)
      | (refine Hide.out hK _ ?_; clear hK K)
      | (refine Hide.out hM _ ?_; clear hM M)
      | (refine run_x rfl (by simp only [go_sem, *]; rfl) ?_)
      | (refine gcase_t ?_)
      | (refine gcase_b (fun hb => ?_) (fun hb => ?_) <;> first | (injection hb) | (subst hb) | (simp only [Bool.not_true, Bool.not_false, Bool.not_eq_true', Bool.not_eq_false', Bool.not_eq_true, Bool.not_eq_false, decide_eq_true_eq, decide_eq_false_iff_not] at hb) | skip)
      | (refine fun (K : Out → Prop) hK => ?_; simp only [go_sem, *])
      | (refine fun (b : Bool) (hT : _ → b = false) => ?_)
      | (refine awp_cond _ (by simp only [go_sem, *]; rfl) (fun hb => ?_) (fun hb => ?_) <;> first | (injection hb) | (subst hb) | (simp only [Bool.not_true, Bool.not_false, Bool.not_eq_true', Bool.not_eq_false', Bool.not_eq_true, Bool.not_eq_false, decide_eq_true_eq, decide_eq_false_iff_not] at hb) | skip)
      | (refine draw_o fun K hK => ?_; simp only [go_sem, *])
      | (refine draw_nil ?_; refine to_normal ?_)
      | (refine draw_nil ?_)
      | (refine Hide.out hK _ dyn_v ?_; clear hK K)
      | (refine Hide.out hK _ dyn_m ?_; clear hK K)
      | (refine Hide.out hK _ dyn_b ?_; clear hK K)
      | (refine Hide.out hK _ dyn_p ?_; clear hK K)
      | (refine Hide.out hK _ dyn_s ?_; clear hK K)
      | (refine Hide.out hK _ dyn_a ?_; clear hK K)
      | (refine Hide.out hK _ (dyn_c (Nat.le_of_ble_eq_true rfl)) ?_; clear hK K)
      | (refine draw_x rfl (by simp only [go_sem, *]; rfl) ?_)
      | (refine ⟨_, c1, [], .inl rfl, ?_⟩; simp only [go_sem, *])
      | (refine ⟨_, c1, [], .inr ⟨rfl, flat_of rfl⟩, ?_⟩; simp only [go_sem, *])
      | (refine ⟨_, c1, _, .inl rfl, ?_⟩; simp only [go_sem, *])
      | (refine ⟨_, c2, [], .inl rfl, ?_⟩; simp only [go_sem, *])
      | (refine ⟨_, c2, [], .inr ⟨rfl, flat_of rfl⟩, ?_⟩; simp only [go_sem, *])
      | (refine ⟨_, c2, _, .inl rfl, ?_⟩; simp only [go_sem, *])
      | (refine ⟨_, c3, [], .inl rfl, ?_⟩; simp only [go_sem, *])
      | (refine ⟨_, c3, [], .inr ⟨rfl, flat_of rfl⟩, ?_⟩; simp only [go_sem, *])
      | (refine ⟨_, c3, _, .inl rfl, ?_⟩; simp only [go_sem, *])
      | (refine ⟨_, c4, [], .inl rfl, ?_⟩; simp only [go_sem, *])
      | (refine ⟨_, c4, [], .inr ⟨rfl, flat_of rfl⟩, ?_⟩; simp only [go_sem, *])
      | (refine ⟨_, c4, _, .inl rfl, ?_⟩; simp only [go_sem, *])
      | (refine ⟨_, c5, [], .inl rfl, ?_⟩; simp only [go_sem, *])
      | (refine ⟨_, c5, [], .inr ⟨rfl, flat_of rfl⟩, ?_⟩; simp only [go_sem, *])
      | (refine ⟨_, c5, _, .inl rfl, ?_⟩; simp only [go_sem, *])
      | (refine awp_block ?_)
      | (refine awp_skip ?_)
      | (refine awp_exit ?_)
      | (refine awp_ret ?_)
      | (refine to_normal ?_)
      | (refine to_ret ?_)
      | (refine to_exit ?_)
      | (refine out_normal ?_)
      | (refine out_ret ?_)
      | (refine out_exit ?_)
      | (refine out_exit' rfl ?_)
      | (refine fin_ret ?_)
      | (refine fin_normal ?_)
      | (refine use_hide (by assumption) ?_)
      | (refine And.intro (by omega) ?_)
      | fail)
    all_goals refine retOk_def (by simp [Try.f12, go_sem]) (by simp only [Try.f12, go_sem, *]; rfl) rfl ?_ ?_ ?_
    all_goals simp only [go_sem, *]
end Go.Proofs
