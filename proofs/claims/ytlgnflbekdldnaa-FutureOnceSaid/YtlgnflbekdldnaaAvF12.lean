/- The law FutureOnce. -/
import Derived.Test.YtlgnflbekdldnaaAvF9
set_option linter.unusedVariables false
set_option linter.unusedSimpArgs false
set_option maxRecDepth 4000
set_option maxHeartbeats 1000000
namespace Go.Proofs
open Go.AV Go.RowKit
attribute [local irreducible] dynOk Out.quiet Out.small AWp aRun dWalk aOut thenA inBlockA retOk retAVs AS.init Out.apply
set_option maxHeartbeats 8000000 in
theorem Try.k9 (l : List GFuture) (hl : l.length * 104 ≤ reachBytes) (ho : ∀ f ∈ l, f.ok) (id : Int) (v : GVal) (hv : v.ok) (ok : Bool) :
    AV.Spec Try.prog 9 [.one (.sl (l.map GFuture.cs)), .one (.int .i64 id), .agg v.cs, .one (.bool ok)] [.one (.c (.bool true))] := by
  have c1 := Try.k39 l v hl ho hv
  have c2 := Try.k40
  have c3 := Try.k46 l id v hl ho hv
  have c4 := Try.k49 l id v hl ho hv
  have hst : ∃ st : Int, st = 1 ∨ st = 2 := ⟨1, .inl rfl⟩
  rcases FU.complete_cases l id 1 v with ⟨e, he, h⟩ | ⟨n, hn, rfl, hs, h⟩
  · have h2 : FU.complete l id 2 v = ([], e) := by
      unfold FU.complete at h ⊢
      split at h
      · rw [if_pos (by assumption)]; exact h
      · rw [if_neg (by assumption)]
        split at h
        · rw [if_pos (by assumption)]; exact h
        · simp at h; exact absurd h.2.symm he
    rw [h] at c3
    rw [h2] at c4
    clear h h2 hl ho hv hst
    cases ok
    all_goals
      refine spec_of_body Try.func9 rfl rfl (by simp) (fun B w0 => ?_)
      repeat' (first
        | (refine seq_x fun M hM => ?_)
        | (refine awp_region (by kernel_rfl) ?_)
        | (refine awp_draw Try.follow (by kernel_rfl) (by kernel_rfl) ?_)
        | (refine run_o fun K hK => ?_; simp only [go_sem, *])
        | (refine run_nil ?_; refine to_normal ?_)
        | (refine run_nil ?_)
        | (refine Hide.out hK _ ?_; clear hK K)
        | (refine Hide.out hM _ ?_; clear hM M)
        | (refine run_x rfl (by simp only [go_sem, *]; rfl) ?_)
        | (refine gcase_t ?_)
        | (refine gcase_b (fun hb => ?_) (fun hb => ?_) <;> first | (injection hb) | (subst hb) | (simp only [Bool.not_true, Bool.not_false, Bool.not_eq_true', Bool.not_eq_false', Bool.not_eq_true, Bool.not_eq_false, decide_eq_true_eq, decide_eq_false_iff_not] at hb) | skip)
        | (refine fun (K : Out → Prop) hK => ?_; simp only [go_sem, *])
        | (refine fun (b : Bool) (hT : _ → b = false) => ?_)
        | (refine awp_cond _ (by simp only [go_sem, *]; rfl) (fun hb => ?_) (fun hb => ?_) <;> first | (injection hb) | (subst hb) | (simp only [Bool.not_true, Bool.not_false, Bool.not_eq_true', Bool.not_eq_false', Bool.not_eq_true, Bool.not_eq_false, decide_eq_true_eq, decide_eq_false_iff_not] at hb) | skip)
        | (refine draw_o fun K hK => ?_; simp only [go_sem, *])
        | (refine draw_nil ?_; refine to_normal ?_)
        | (refine draw_nil ?_)
        | (refine Hide.out hK _ dyn_v ?_; clear hK K)
        | (refine Hide.out hK _ dyn_m ?_; clear hK K)
        | (refine Hide.out hK _ dyn_b ?_; clear hK K)
        | (refine Hide.out hK _ dyn_p ?_; clear hK K)
        | (refine Hide.out hK _ dyn_s ?_; clear hK K)
        | (refine Hide.out hK _ dyn_a ?_; clear hK K)
        | (refine Hide.out hK _ (dyn_c (Nat.le_of_ble_eq_true rfl)) ?_; clear hK K)
        | (refine draw_x rfl (by simp only [go_sem, *]; rfl) ?_)
        | (refine ⟨_, c1, [], .inl rfl, ?_⟩; simp only [go_sem, *])
        | (refine ⟨_, c1, [], .inr ⟨rfl, flat_of rfl⟩, ?_⟩; simp only [go_sem, *])
        | (refine ⟨_, c1, _, .inl rfl, ?_⟩; simp only [go_sem, *])
        | (refine ⟨_, c2, [], .inl rfl, ?_⟩; simp only [go_sem, *])
        | (refine ⟨_, c2, [], .inr ⟨rfl, flat_of rfl⟩, ?_⟩; simp only [go_sem, *])
        | (refine ⟨_, c2, _, .inl rfl, ?_⟩; simp only [go_sem, *])
        | (refine ⟨_, c3, [], .inl rfl, ?_⟩; simp only [go_sem, *])
        | (refine ⟨_, c3, [], .inr ⟨rfl, flat_of rfl⟩, ?_⟩; simp only [go_sem, *])
        | (refine ⟨_, c3, _, .inl rfl, ?_⟩; simp only [go_sem, *])
        | (refine ⟨_, c4, [], .inl rfl, ?_⟩; simp only [go_sem, *])
        | (refine ⟨_, c4, [], .inr ⟨rfl, flat_of rfl⟩, ?_⟩; simp only [go_sem, *])
        | (refine ⟨_, c4, _, .inl rfl, ?_⟩; simp only [go_sem, *])
        | (refine awp_block ?_)
        | (refine awp_skip ?_)
        | (refine awp_exit ?_)
        | (refine awp_ret ?_)
        | (refine to_normal ?_)
        | (refine to_ret ?_)
        | (refine to_exit ?_)
        | (refine out_normal ?_)
        | (refine out_ret ?_)
        | (refine out_exit ?_)
        | (refine out_exit' rfl ?_)
        | (refine fin_ret ?_)
        | (refine fin_normal ?_)
        | (refine use_hide (by assumption) ?_)
        | (refine And.intro (by omega) ?_)
        | fail)
      all_goals refine retOk_def (by simp [Try.f9, go_sem]) (by simp only [Try.f9, go_sem, *]; rfl) rfl ?_ ?_ ?_
      all_goals simp only [go_sem, *]
  · have h2 : ∀ st, FU.complete l n st v = (l.set n ⟨st, l[n].Kind, l[n].Seq, v⟩, 0) := by
      intro st
      unfold FU.complete
      rw [if_neg (by omega)]
      simp only [Int.toNat_natCast, getD_lt _ _ _ hn]
      rw [if_neg (by simpa using hs)]
    have h3 : ∀ st, IntKind.i64.wrap st = st → (l.set n ⟨st, l[n].Kind, l[n].Seq, v⟩).length * 104 ≤ reachBytes ∧ ∀ f ∈ (l.set n ⟨st, l[n].Kind, l[n].Seq, v⟩), f.ok := by
      intro st hst
      refine ⟨by simp; exact hl, fun f hf => ?_⟩
      rcases List.mem_or_eq_of_mem_set hf with hf | rfl
      · exact ho f hf
      · have := ho _ (List.getElem_mem hn)
        exact ⟨hst, this.2.1, this.2.2.1, hv, trivial⟩
    have h4 : ∀ st st', ¬ st = 0 → FU.complete (l.set n ⟨st, l[n].Kind, l[n].Seq, v⟩) n st' v = ([], 16) := by
      intro st st' h
      unfold FU.complete
      rw [if_neg (by simp; omega)]
      simp only [Int.toNat_natCast]
      rw [getD_lt _ _ _ (by simpa using hn)]
      simp [h]
    have hx : (l.map GFuture.cs).getD n [] = l[n].cs := at_map GFuture.cs l n hn
    have hsg : ∀ y : GFuture, ((l.set n y).map GFuture.cs).getD n [] = y.cs := fun y => set_get _ _ _ hn y
    have htk : ∀ y : GFuture, List.take n ((l.set n y).map GFuture.cs) = (l.take n).map GFuture.cs := fun y => by
      rw [← List.map_take, List.take_set_of_le (Nat.le_refl n)]
    have htk2 : List.take n (l.map GFuture.cs) = (l.take n).map GFuture.cs := by rw [List.map_take]
    have hdr : ∀ y : GFuture, List.drop (n + 1) ((l.set n y).map GFuture.cs) = (l.drop (n + 1)).map GFuture.cs := fun y => by
      rw [← List.map_drop, List.drop_set_of_lt (by omega)]
    have htl : ∀ y : GFuture, List.take l.length ((l.set n y).map GFuture.cs) = (l.set n y).map GFuture.cs := fun y => List.take_of_length_le (by simp)
    have htl2 : List.take l.length (l.map GFuture.cs) = l.map GFuture.cs := List.take_of_length_le (by simp)
    have hdr2 : List.drop (n + 1) (l.map GFuture.cs) = (l.drop (n + 1)).map GFuture.cs := by rw [List.map_drop]
    have hwd : IntKind.i64.wrap ((n : Int) + 1) = ((n + 1 : Nat) : Int) := by rw [reach_eq] at hl; rw [w64] <;> omega
    have c9 := Try.k43 (l.take n) (l.take n) (by rw [reach_eq] at hl ⊢; simp; omega) (fun f hf => ho f (List.mem_of_mem_take hf))
    have c10 := Try.k43 (l.drop (n + 1)) (l.drop (n + 1)) (by rw [reach_eq] at hl ⊢; simp; omega) (fun f hf => ho f (List.mem_of_mem_drop hf))
    have c11 := Try.k56 v v hv
    rw [h2] at c3 c4
    cases ok
    · have c5 := Try.k46 _ n v (h3 2 rfl).1 (h3 2 rfl).2 hv
      have c6 := Try.k49 _ n v (h3 2 rfl).1 (h3 2 rfl).2 hv
      rw [h4 2 1 (by decide)] at c5
      rw [h4 2 2 (by decide)] at c6
      clear h h2 h3 h4 ho hv hst
      rw [reach_eq] at hl
      refine spec_of_body Try.func9 rfl rfl (by simp) (fun B w0 => ?_)
      repeat' (first
        | (refine seq_x fun M hM => ?_)
        | (refine awp_region (by kernel_rfl) ?_)
        | (refine awp_draw Try.follow (by kernel_rfl) (by kernel_rfl) ?_)
        | (refine run_o fun K hK => ?_; simp only [go_sem, *])
        | (refine run_nil ?_; refine to_normal ?_)
        | (refine run_nil ?_)
        | (refine Hide.out hK _ ?_; clear hK K)
        | (refine Hide.out hM _ ?_; clear hM M)
        | (refine run_x rfl (by simp only [go_sem, *]; rfl) ?_)
        | (refine gcase_t ?_)
        | (refine gcase_b (fun hb => ?_) (fun hb => ?_) <;> first | (injection hb) | (subst hb) | (simp only [Bool.not_true, Bool.not_false, Bool.not_eq_true', Bool.not_eq_false', Bool.not_eq_true, Bool.not_eq_false, decide_eq_true_eq, decide_eq_false_iff_not] at hb) | skip)
        | (refine fun (K : Out → Prop) hK => ?_; simp only [go_sem, *])
        | (refine fun (b : Bool) (hT : _ → b = false) => ?_)
        | (refine awp_cond _ (by simp only [go_sem, *]; rfl) (fun hb => ?_) (fun hb => ?_) <;> first | (injection hb) | (subst hb) | (simp only [Bool.not_true, Bool.not_false, Bool.not_eq_true', Bool.not_eq_false', Bool.not_eq_true, Bool.not_eq_false, decide_eq_true_eq, decide_eq_false_iff_not] at hb) | skip)
        | (refine draw_o fun K hK => ?_; simp only [go_sem, *])
        | (refine draw_nil ?_; refine to_normal ?_)
        | (refine draw_nil ?_)
        | (refine Hide.out hK _ dyn_v ?_; clear hK K)
        | (refine Hide.out hK _ dyn_m ?_; clear hK K)
        | (refine Hide.out hK _ dyn_b ?_; clear hK K)
        | (refine Hide.out hK _ dyn_p ?_; clear hK K)
        | (refine Hide.out hK _ dyn_s ?_; clear hK K)
        | (refine Hide.out hK _ dyn_a ?_; clear hK K)
        | (refine Hide.out hK _ (dyn_c (Nat.le_of_ble_eq_true rfl)) ?_; clear hK K)
        | (refine draw_x rfl (by simp only [go_sem, *]; rfl) ?_)
        | (refine ⟨_, c1, [], .inl rfl, ?_⟩; simp only [go_sem, *])
        | (refine ⟨_, c1, [], .inr ⟨rfl, flat_of rfl⟩, ?_⟩; simp only [go_sem, *])
        | (refine ⟨_, c1, _, .inl rfl, ?_⟩; simp only [go_sem, *])
        | (refine ⟨_, c2, [], .inl rfl, ?_⟩; simp only [go_sem, *])
        | (refine ⟨_, c2, [], .inr ⟨rfl, flat_of rfl⟩, ?_⟩; simp only [go_sem, *])
        | (refine ⟨_, c2, _, .inl rfl, ?_⟩; simp only [go_sem, *])
        | (refine ⟨_, c3, [], .inl rfl, ?_⟩; simp only [go_sem, *])
        | (refine ⟨_, c3, [], .inr ⟨rfl, flat_of rfl⟩, ?_⟩; simp only [go_sem, *])
        | (refine ⟨_, c3, _, .inl rfl, ?_⟩; simp only [go_sem, *])
        | (refine ⟨_, c4, [], .inl rfl, ?_⟩; simp only [go_sem, *])
        | (refine ⟨_, c4, [], .inr ⟨rfl, flat_of rfl⟩, ?_⟩; simp only [go_sem, *])
        | (refine ⟨_, c4, _, .inl rfl, ?_⟩; simp only [go_sem, *])
        | (refine ⟨_, c5, [], .inl rfl, ?_⟩; simp only [go_sem, *])
        | (refine ⟨_, c5, [], .inr ⟨rfl, flat_of rfl⟩, ?_⟩; simp only [go_sem, *])
        | (refine ⟨_, c5, _, .inl rfl, ?_⟩; simp only [go_sem, *])
        | (refine ⟨_, c6, [], .inl rfl, ?_⟩; simp only [go_sem, *])
        | (refine ⟨_, c6, [], .inr ⟨rfl, flat_of rfl⟩, ?_⟩; simp only [go_sem, *])
        | (refine ⟨_, c6, _, .inl rfl, ?_⟩; simp only [go_sem, *])
        | (refine ⟨_, c9, [], .inl rfl, ?_⟩; simp only [go_sem, *])
        | (refine ⟨_, c9, [], .inr ⟨rfl, flat_of rfl⟩, ?_⟩; simp only [go_sem, *])
        | (refine ⟨_, c9, _, .inl rfl, ?_⟩; simp only [go_sem, *])
        | (refine ⟨_, c10, [], .inl rfl, ?_⟩; simp only [go_sem, *])
        | (refine ⟨_, c10, [], .inr ⟨rfl, flat_of rfl⟩, ?_⟩; simp only [go_sem, *])
        | (refine ⟨_, c10, _, .inl rfl, ?_⟩; simp only [go_sem, *])
        | (refine ⟨_, c11, [], .inl rfl, ?_⟩; simp only [go_sem, *])
        | (refine ⟨_, c11, [], .inr ⟨rfl, flat_of rfl⟩, ?_⟩; simp only [go_sem, *])
        | (refine ⟨_, c11, _, .inl rfl, ?_⟩; simp only [go_sem, *])
        | (refine awp_block ?_)
        | (refine awp_skip ?_)
        | (refine awp_exit ?_)
        | (refine awp_ret ?_)
        | (refine to_normal ?_)
        | (refine to_ret ?_)
        | (refine to_exit ?_)
        | (refine out_normal ?_)
        | (refine out_ret ?_)
        | (refine out_exit ?_)
        | (refine out_exit' rfl ?_)
        | (refine fin_ret ?_)
        | (refine fin_normal ?_)
        | (refine use_hide (by assumption) ?_)
        | (refine And.intro (by omega) ?_)
        | fail)
      all_goals refine retOk_def (by simp [Try.f9, go_sem]) (by simp only [Try.f9, go_sem, *]; rfl) rfl ?_ ?_ ?_
      all_goals simp only [go_sem, *]
    · have c5 := Try.k46 _ n v (h3 1 rfl).1 (h3 1 rfl).2 hv
      have c6 := Try.k49 _ n v (h3 1 rfl).1 (h3 1 rfl).2 hv
      rw [h4 1 1 (by decide)] at c5
      rw [h4 1 2 (by decide)] at c6
      clear h h2 h3 h4 ho hv hst
      rw [reach_eq] at hl
      refine spec_of_body Try.func9 rfl rfl (by simp) (fun B w0 => ?_)
      repeat' (first
        | (refine seq_x fun M hM => ?_)
        | (refine awp_region (by kernel_rfl) ?_)
        | (refine awp_draw Try.follow (by kernel_rfl) (by kernel_rfl) ?_)
        | (refine run_o fun K hK => ?_; simp only [go_sem, *])
        | (refine run_nil ?_; refine to_normal ?_)
        | (refine run_nil ?_)
        | (refine Hide.out hK _ ?_; clear hK K)
        | (refine Hide.out hM _ ?_; clear hM M)
        | (refine run_x rfl (by simp only [go_sem, *]; rfl) ?_)
        | (refine gcase_t ?_)
        | (refine gcase_b (fun hb => ?_) (fun hb => ?_) <;> first | (injection hb) | (subst hb) | (simp only [Bool.not_true, Bool.not_false, Bool.not_eq_true', Bool.not_eq_false', Bool.not_eq_true, Bool.not_eq_false, decide_eq_true_eq, decide_eq_false_iff_not] at hb) | skip)
        | (refine fun (K : Out → Prop) hK => ?_; simp only [go_sem, *])
        | (refine fun (b : Bool) (hT : _ → b = false) => ?_)
        | (refine awp_cond _ (by simp only [go_sem, *]; rfl) (fun hb => ?_) (fun hb => ?_) <;> first | (injection hb) | (subst hb) | (simp only [Bool.not_true, Bool.not_false, Bool.not_eq_true', Bool.not_eq_false', Bool.not_eq_true, Bool.not_eq_false, decide_eq_true_eq, decide_eq_false_iff_not] at hb) | skip)
        | (refine draw_o fun K hK => ?_; simp only [go_sem, *])
        | (refine draw_nil ?_; refine to_normal ?_)
        | (refine draw_nil ?_)
        | (refine Hide.out hK _ dyn_v ?_; clear hK K)
        | (refine Hide.out hK _ dyn_m ?_; clear hK K)
        | (refine Hide.out hK _ dyn_b ?_; clear hK K)
        | (refine Hide.out hK _ dyn_p ?_; clear hK K)
        | (refine Hide.out hK _ dyn_s ?_; clear hK K)
        | (refine Hide.out hK _ dyn_a ?_; clear hK K)
        | (refine Hide.out hK _ (dyn_c (Nat.le_of_ble_eq_true rfl)) ?_; clear hK K)
        | (refine draw_x rfl (by simp only [go_sem, *]; rfl) ?_)
        | (refine ⟨_, c1, [], .inl rfl, ?_⟩; simp only [go_sem, *])
        | (refine ⟨_, c1, [], .inr ⟨rfl, flat_of rfl⟩, ?_⟩; simp only [go_sem, *])
        | (refine ⟨_, c1, _, .inl rfl, ?_⟩; simp only [go_sem, *])
        | (refine ⟨_, c2, [], .inl rfl, ?_⟩; simp only [go_sem, *])
        | (refine ⟨_, c2, [], .inr ⟨rfl, flat_of rfl⟩, ?_⟩; simp only [go_sem, *])
        | (refine ⟨_, c2, _, .inl rfl, ?_⟩; simp only [go_sem, *])
        | (refine ⟨_, c3, [], .inl rfl, ?_⟩; simp only [go_sem, *])
        | (refine ⟨_, c3, [], .inr ⟨rfl, flat_of rfl⟩, ?_⟩; simp only [go_sem, *])
        | (refine ⟨_, c3, _, .inl rfl, ?_⟩; simp only [go_sem, *])
        | (refine ⟨_, c4, [], .inl rfl, ?_⟩; simp only [go_sem, *])
        | (refine ⟨_, c4, [], .inr ⟨rfl, flat_of rfl⟩, ?_⟩; simp only [go_sem, *])
        | (refine ⟨_, c4, _, .inl rfl, ?_⟩; simp only [go_sem, *])
        | (refine ⟨_, c5, [], .inl rfl, ?_⟩; simp only [go_sem, *])
        | (refine ⟨_, c5, [], .inr ⟨rfl, flat_of rfl⟩, ?_⟩; simp only [go_sem, *])
        | (refine ⟨_, c5, _, .inl rfl, ?_⟩; simp only [go_sem, *])
        | (refine ⟨_, c6, [], .inl rfl, ?_⟩; simp only [go_sem, *])
        | (refine ⟨_, c6, [], .inr ⟨rfl, flat_of rfl⟩, ?_⟩; simp only [go_sem, *])
        | (refine ⟨_, c6, _, .inl rfl, ?_⟩; simp only [go_sem, *])
        | (refine ⟨_, c9, [], .inl rfl, ?_⟩; simp only [go_sem, *])
        | (refine ⟨_, c9, [], .inr ⟨rfl, flat_of rfl⟩, ?_⟩; simp only [go_sem, *])
        | (refine ⟨_, c9, _, .inl rfl, ?_⟩; simp only [go_sem, *])
        | (refine ⟨_, c10, [], .inl rfl, ?_⟩; simp only [go_sem, *])
        | (refine ⟨_, c10, [], .inr ⟨rfl, flat_of rfl⟩, ?_⟩; simp only [go_sem, *])
        | (refine ⟨_, c10, _, .inl rfl, ?_⟩; simp only [go_sem, *])
        | (refine ⟨_, c11, [], .inl rfl, ?_⟩; simp only [go_sem, *])
        | (refine ⟨_, c11, [], .inr ⟨rfl, flat_of rfl⟩, ?_⟩; simp only [go_sem, *])
        | (refine ⟨_, c11, _, .inl rfl, ?_⟩; simp only [go_sem, *])
        | (refine awp_block ?_)
        | (refine awp_skip ?_)
        | (refine awp_exit ?_)
        | (refine awp_ret ?_)
        | (refine to_normal ?_)
        | (refine to_ret ?_)
        | (refine to_exit ?_)
        | (refine out_normal ?_)
        | (refine out_ret ?_)
        | (refine out_exit ?_)
        | (refine out_exit' rfl ?_)
        | (refine fin_ret ?_)
        | (refine fin_normal ?_)
        | (refine use_hide (by assumption) ?_)
        | (refine And.intro (by omega) ?_)
        | fail)
      all_goals refine retOk_def (by simp [Try.f9, go_sem]) (by simp only [Try.f9, go_sem, *]; rfl) rfl ?_ ?_ ?_
      all_goals simp only [go_sem, *]
end Go.Proofs
