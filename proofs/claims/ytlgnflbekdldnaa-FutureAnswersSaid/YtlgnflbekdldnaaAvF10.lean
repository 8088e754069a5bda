/- The law FutureAnswers. -/
import Derived.Test.YtlgnflbekdldnaaAvF9
set_option linter.unusedVariables false
set_option linter.unusedSimpArgs false
set_option maxRecDepth 4000
set_option maxHeartbeats 1000000
namespace Go.Proofs
open Go.AV Go.RowKit
attribute [local irreducible] dynOk Out.quiet Out.small AWp aRun dWalk aOut thenA inBlockA retOk retAVs AS.init Out.apply
theorem Try.k8 (l : List GFuture) (hl : l.length * 104 ≤ reachBytes) (ho : ∀ f ∈ l, f.ok) (kind seq id : Int) (v : GVal) (hv : v.ok) (hseq : IntKind.i64.wrap seq = seq) :
    AV.Spec Try.prog 8 [.one (.sl (l.map GFuture.cs)), .one (.int .i64 kind), .one (.int .i64 seq), .one (.int .i64 id), .agg v.cs] [.one (.c (.bool true))] := by
  have c1 := Try.k39 l v hl ho hv
  have c2 := Try.k40
  have c3 := Try.k42 l kind seq hl ho
  have c4 := Try.k47 l kind seq hl
  have c5 := Try.k46 l id v hl ho hv
  have c6 := Try.k48 l id v hl
  have c7 := Try.k49 l id v hl ho hv
  have c8 := Try.k50 l id v hl
  have c9 := Try.k51 l kind seq hl
  have c10 := Try.k52 l kind seq hl
  have c11 := Try.k53 l id
  have c12 := Try.k54 l id
  have c13 := Try.k41 l hl
  have c14 := Try.k55 l hl
  have hp := FU.pend_len 0 l
  have c15 := Try.k44 (FU.pend l) (FU.pend l) (by unfold FU.pend; rw [reach_eq] at hl ⊢; omega)
  clear hp
  have hnew : (FU.new l kind seq).1.length * 104 ≤ reachBytes ∧ ∀ f ∈ (FU.new l kind seq).1, f.ok := by
    rcases FU.new_cases l kind seq with ⟨e, _, h⟩ | ⟨h1, h2, h3, h4, h⟩
    · rw [h]; simp
    · rw [h]
      refine ⟨by simp; rw [reach_eq]; omega, fun f hf => ?_⟩
      rcases List.mem_append.1 hf with hf | hf
      · exact ho f hf
      · obtain rfl : f = FU.fresh kind seq := by simpa using hf
        exact ⟨rfl, w64 kind (by omega), hseq, FU.zero_ok, trivial⟩
  have hcomp : ∀ st, IntKind.i64.wrap st = st → (FU.complete l id st v).1.length * 104 ≤ reachBytes ∧ ∀ f ∈ (FU.complete l id st v).1, f.ok := by
    intro st hst
    rcases FU.complete_cases l id st v with ⟨e, _, h⟩ | ⟨n, h1, rfl, h2, h⟩
    · rw [h]; simp
    · rw [h]
      refine ⟨by simp; exact hl, fun f hf => ?_⟩
      rcases List.mem_or_eq_of_mem_set hf with hf | rfl
      · exact ho f hf
      · have := ho _ (List.getElem_mem h1)
        exact ⟨hst, this.2.1, this.2.2.1, hv, trivial⟩
  have c16 := Try.k43 (FU.new l kind seq).1 (FU.new l kind seq).1 hnew.1 hnew.2
  have c17 := Try.k43 (FU.complete l id 1 v).1 (FU.complete l id 1 v).1 (hcomp 1 rfl).1 (hcomp 1 rfl).2
  have c18 := Try.k43 (FU.complete l id 2 v).1 (FU.complete l id 2 v).1 (hcomp 2 rfl).1 (hcomp 2 rfl).2
  clear hnew hcomp hl ho hv
  refine spec_of_body Try.func8 rfl rfl (by simp) (fun B w0 => ?_)
  repeat' (first
    | (refine seq_x fun M hM => ?_)
    | (refine awp_region (by kernel_rfl) ?_)
    | (refine awp_draw Try.follow (by kernel_rfl) (by kernel_rfl) ?_)
    | (refine run_o fun K hK => ?_; simp only [go_sem, *])
    | (refine run_nil ?_; refine to_normal ?_)
    | (refine run_nil ?_)
    | (refine Hide.out hK _ ?_; clear hK K)
    | (refine Hide.out hM _ ?_; clear hM M)
    | (refine run_x rfl (by simp only [go_sem, *]; rfl) ?_)
    | (refine gcase_t ?_)
    | (refine gcase_b (fun hb => ?_) (fun hb => ?_) <;> first | (injection hb) | (subst hb) | (simp only [Bool.not_true, Bool.not_false, Bool.not_eq_true', Bool.not_eq_false', Bool.not_eq_true, Bool.not_eq_false, decide_eq_true_eq, decide_eq_false_iff_not] at hb) | skip)
    | (refine fun (K : Out → Prop) hK => ?_; simp only [go_sem, *])
    | (refine fun (b : Bool) (hT : _ → b = false) => ?_)
    | (refine awp_cond _ (by simp only [go_sem, *]; rfl) (fun hb => ?_) (fun hb => ?_) <;> first | (injection hb) | (subst hb) | (simp only [Bool.not_true, Bool.not_false, Bool.not_eq_true', Bool.not_eq_false', Bool.not_eq_true, Bool.not_eq_false, decide_eq_true_eq, decide_eq_false_iff_not] at hb) | skip)
    | (refine draw_o fun K hK => ?_; simp only [go_sem, *])
    | (refine draw_nil ?_; refine to_normal ?_)
    | (refine draw_nil ?_)
    | (refine Hide.out hK _ dyn_v ?_; clear hK K)
    | (refine Hide.out hK _ dyn_m ?_; clear hK K)
    | (refine Hide.out hK _ dyn_b ?_; clear hK K)
    | (refine Hide.out hK _ dyn_p ?_; clear hK K)
    | (refine Hide.out hK _ dyn_s ?_; clear hK K)
    | (refine Hide.out hK _ dyn_a ?_; clear hK K)
    | (refine Hide.out hK _ (dyn_c (Nat.le_of_ble_eq_true rfl)) ?_; clear hK K)
    | (refine draw_x rfl (by simp only [go_sem, *]; rfl) ?_)
    | (refine ⟨_, c1, [], .inl rfl, ?_⟩; simp only [go_sem, *])
    | (refine ⟨_, c1, [], .inr ⟨rfl, flat_of rfl⟩, ?_⟩; simp only [go_sem, *])
    | (refine ⟨_, c1, _, .inl rfl, ?_⟩; simp only [go_sem, *])
    | (refine ⟨_, c2, [], .inl rfl, ?_⟩; simp only [go_sem, *])
    | (refine ⟨_, c2, [], .inr ⟨rfl, flat_of rfl⟩, ?_⟩; simp only [go_sem, *])
    | (refine ⟨_, c2, _, .inl rfl, ?_⟩; simp only [go_sem, *])
    | (refine ⟨_, c3, [], .inl rfl, ?_⟩; simp only [go_sem, *])
    | (refine ⟨_, c3, [], .inr ⟨rfl, flat_of rfl⟩, ?_⟩; simp only [go_sem, *])
    | (refine ⟨_, c3, _, .inl rfl, ?_⟩; simp only [go_sem, *])
    | (refine ⟨_, c4, [], .inl rfl, ?_⟩; simp only [go_sem, *])
    | (refine ⟨_, c4, [], .inr ⟨rfl, flat_of rfl⟩, ?_⟩; simp only [go_sem, *])
    | (refine ⟨_, c4, _, .inl rfl, ?_⟩; simp only [go_sem, *])
    | (refine ⟨_, c5, [], .inl rfl, ?_⟩; simp only [go_sem, *])
    | (refine ⟨_, c5, [], .inr ⟨rfl, flat_of rfl⟩, ?_⟩; simp only [go_sem, *])
    | (refine ⟨_, c5, _, .inl rfl, ?_⟩; simp only [go_sem, *])
    | (refine ⟨_, c6, [], .inl rfl, ?_⟩; simp only [go_sem, *])
    | (refine ⟨_, c6, [], .inr ⟨rfl, flat_of rfl⟩, ?_⟩; simp only [go_sem, *])
    | (refine ⟨_, c6, _, .inl rfl, ?_⟩; simp only [go_sem, *])
    | (refine ⟨_, c7, [], .inl rfl, ?_⟩; simp only [go_sem, *])
    | (refine ⟨_, c7, [], .inr ⟨rfl, flat_of rfl⟩, ?_⟩; simp only [go_sem, *])
    | (refine ⟨_, c7, _, .inl rfl, ?_⟩; simp only [go_sem, *])
    | (refine ⟨_, c8, [], .inl rfl, ?_⟩; simp only [go_sem, *])
    | (refine ⟨_, c8, [], .inr ⟨rfl, flat_of rfl⟩, ?_⟩; simp only [go_sem, *])
    | (refine ⟨_, c8, _, .inl rfl, ?_⟩; simp only [go_sem, *])
    | (refine ⟨_, c9, [], .inl rfl, ?_⟩; simp only [go_sem, *])
    | (refine ⟨_, c9, [], .inr ⟨rfl, flat_of rfl⟩, ?_⟩; simp only [go_sem, *])
    | (refine ⟨_, c9, _, .inl rfl, ?_⟩; simp only [go_sem, *])
    | (refine ⟨_, c10, [], .inl rfl, ?_⟩; simp only [go_sem, *])
    | (refine ⟨_, c10, [], .inr ⟨rfl, flat_of rfl⟩, ?_⟩; simp only [go_sem, *])
    | (refine ⟨_, c10, _, .inl rfl, ?_⟩; simp only [go_sem, *])
    | (refine ⟨_, c11, [], .inl rfl, ?_⟩; simp only [go_sem, *])
    | (refine ⟨_, c11, [], .inr ⟨rfl, flat_of rfl⟩, ?_⟩; simp only [go_sem, *])
    | (refine ⟨_, c11, _, .inl rfl, ?_⟩; simp only [go_sem, *])
    | (refine ⟨_, c12, [], .inl rfl, ?_⟩; simp only [go_sem, *])
    | (refine ⟨_, c12, [], .inr ⟨rfl, flat_of rfl⟩, ?_⟩; simp only [go_sem, *])
    | (refine ⟨_, c12, _, .inl rfl, ?_⟩; simp only [go_sem, *])
    | (refine ⟨_, c13, [], .inl rfl, ?_⟩; simp only [go_sem, *])
    | (refine ⟨_, c13, [], .inr ⟨rfl, flat_of rfl⟩, ?_⟩; simp only [go_sem, *])
    | (refine ⟨_, c13, _, .inl rfl, ?_⟩; simp only [go_sem, *])
    | (refine ⟨_, c14, [], .inl rfl, ?_⟩; simp only [go_sem, *])
    | (refine ⟨_, c14, [], .inr ⟨rfl, flat_of rfl⟩, ?_⟩; simp only [go_sem, *])
    | (refine ⟨_, c14, _, .inl rfl, ?_⟩; simp only [go_sem, *])
    | (refine ⟨_, c15, [], .inl rfl, ?_⟩; simp only [go_sem, *])
    | (refine ⟨_, c15, [], .inr ⟨rfl, flat_of rfl⟩, ?_⟩; simp only [go_sem, *])
    | (refine ⟨_, c15, _, .inl rfl, ?_⟩; simp only [go_sem, *])
    | (refine ⟨_, c16, [], .inl rfl, ?_⟩; simp only [go_sem, *])
    | (refine ⟨_, c16, [], .inr ⟨rfl, flat_of rfl⟩, ?_⟩; simp only [go_sem, *])
    | (refine ⟨_, c16, _, .inl rfl, ?_⟩; simp only [go_sem, *])
    | (refine ⟨_, c17, [], .inl rfl, ?_⟩; simp only [go_sem, *])
    | (refine ⟨_, c17, [], .inr ⟨rfl, flat_of rfl⟩, ?_⟩; simp only [go_sem, *])
    | (refine ⟨_, c17, _, .inl rfl, ?_⟩; simp only [go_sem, *])
    | (refine ⟨_, c18, [], .inl rfl, ?_⟩; simp only [go_sem, *])
    | (refine ⟨_, c18, [], .inr ⟨rfl, flat_of rfl⟩, ?_⟩; simp only [go_sem, *])
    | (refine ⟨_, c18, _, .inl rfl, ?_⟩; simp only [go_sem, *])
    | (refine awp_block ?_)
    | (refine awp_skip ?_)
    | (refine awp_exit ?_)
    | (refine awp_ret ?_)
    | (refine to_normal ?_)
    | (refine to_ret ?_)
    | (refine to_exit ?_)
    | (refine out_normal ?_)
    | (refine out_ret ?_)
    | (refine out_exit ?_)
    | (refine out_exit' rfl ?_)
    | (refine fin_ret ?_)
    | (refine fin_normal ?_)
    | (refine use_hide (by assumption) ?_)
    | (refine And.intro (by omega) ?_)
    | fail)
  all_goals refine retOk_def (by simp [Try.f8, go_sem]) (by simp only [Try.f8, go_sem, *]; rfl) rfl ?_ ?_ ?_
  all_goals simp only [go_sem, *]
end Go.Proofs
