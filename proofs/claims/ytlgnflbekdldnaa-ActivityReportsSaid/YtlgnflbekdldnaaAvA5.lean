/- Layer 36: reports of an activity. -/
import Derived.Test.YtlgnflbekdldnaaAvTN
import Derived.Test.YtlgnflbekdldnaaAvA4
set_option linter.unusedVariables false
set_option maxRecDepth 4000
namespace Go.Proofs
open Go Go.AV
namespace AC
open VU AP
attribute [local irreducible] Runs
theorem m116 (a : GAct) (now t : Int) : Try.m116.R (a, now, t) (stt a now t) := by
  refine U.run_call _ (m184 now) (U.run_ite (fun h => U.run_ret ?_) (fun h => U.run_ite (fun h1 => U.run_ret ?_) (fun h1 => U.run_ite (fun h2 => U.run_ret ?_) (fun h2 => U.run_ite (fun h3 => U.run_ret ?_) (fun h3 => U.run_ret ?_)))))
  all_goals show _ = stt a now t
  all_goals unfold stt
  · rw [if_pos (by rw [h]; rfl)]; rfl
  · rw [if_pos (by rw [show decide (t < 1) = true from h1]; simp)]; rfl
  all_goals have hn : (!clk now || decide (t < 1)) = false := by rw [h, show decide (t < 1) = false from h1]; rfl
  · rw [if_neg (by rw [hn]; decide), if_pos h2]; rfl
  · rw [if_neg (by rw [hn]; decide), if_neg (by rw [h2]; decide), if_pos h3]; rfl
  · rw [if_neg (by rw [hn]; decide), if_neg (by rw [h2]; decide), if_neg (by rw [h3]; decide)]
def bt (a : GAct) (now t : Int) (d : GVal) : GAct × Bool × Int :=
  if (chk a t != 0) = true then (az, false, chk a t) else if clk now = false then (az, false, 2) else if decide (now < a.Started) = true then (az, false, 2) else if decide (now < a.LastBeat) = true then (az, false, 2)
  else if right d = false then (az, false, 12) else (GAct.mk a.Seq a.Event a.Name a.Data a.Opts a.State a.Attempt a.Scheduled a.Due a.Started now a.Token a.Cancel d a.Failure, a.Cancel, 0)
theorem m117 (a : GAct) (ha : aok a) (now t : Int) (d : GVal) (hd : d.ok) : Try.m117.R (a, now, t, d) (bt a now t d) := by
  refine U.run_call _ (m97 a t) (U.run_ite (fun h => U.run_ret ?_) (fun h => U.run_call _ (m165 now) (U.run_ite (fun h1 => U.run_ret ?_) (fun h1 => U.run_ite (fun h2 => U.run_ret ?_) (fun h2 => U.run_ite (fun h3 => U.run_ret ?_) (fun h3 => U.run_call _ (m140 d hd) (U.run_ite (fun h4 => U.run_ret ?_) (fun h4 => U.run_call _ (m161 a ha) (U.run_call _ (m153 d hd) (U.run_ret ?_))))))))))
  all_goals show _ = bt a now t d
  all_goals unfold bt
  · rw [if_pos h]; rfl
  all_goals rw [if_neg (show ¬ (chk a t != 0) = true by rw [h]; decide)]
  · rw [if_pos (by rw [Bool.not_eq_true'] at h1; exact h1)]; rfl
  all_goals rw [if_neg (show ¬ clk now = false by rw [Bool.not_eq_false'] at h1; rw [h1]; decide)]
  · rw [if_pos h2]; rfl
  all_goals rw [if_neg (show ¬ decide (now < a.Started) = true by rw [show decide (now < a.Started) = false from h2]; decide)]
  · rw [if_pos h3]; rfl
  all_goals rw [if_neg (show ¬ decide (now < a.LastBeat) = true by rw [show decide (now < a.LastBeat) = false from h3]; decide)]
  · rw [if_pos (by rw [Bool.not_eq_true'] at h4; exact h4)]; rfl
  · rw [if_neg (show ¬ right d = false by rw [Bool.not_eq_false'] at h4; rw [h4]; decide)]
theorem m120 (a : GAct) (t : Int) : Try.m120.R (a, t) (chk a t) := by
  refine U.run_ite (fun h => U.run_ret ?_) (fun h => U.run_ite (fun h2 => U.run_ret ?_) (fun h2 => U.run_ret ?_))
  all_goals show _ = chk a t
  all_goals unfold chk
  · rw [if_neg (fun q => by rw [bne, show (a.State == 2) = true from q.1] at h; cases h)]
  · rw [if_neg (fun q => by rw [bne, show (a.Token == t) = true from q.2] at h2; cases h2)]
  · rw [bne, Bool.not_eq_false'] at h h2
    rw [if_pos ⟨h, h2⟩]
theorem m118 (a : GAct) (now t : Int) (d : GVal) (hd : d.ok) : Try.m118.R (a, now, t, d) (bt a now t d) := by
  refine U.run_call _ (m120 a t) (U.run_ite (fun h => U.run_ret ?_) (fun h => U.run_call _ (m184 now) (U.run_ite (fun h1 => U.run_ret ?_) (fun h1 => U.run_ite (fun h2 => U.run_ret ?_) (fun h2 => U.run_ite (fun h3 => U.run_ret ?_) (fun h3 => U.run_call _ (m148 d hd) (U.run_ite (fun h4 => U.run_ret ?_) (fun h4 => U.run_ret ?_))))))))
  all_goals show _ = bt a now t d
  all_goals unfold bt
  · rw [if_pos h]; rfl
  all_goals rw [if_neg (show ¬ (chk a t != 0) = true by rw [h]; decide)]
  · rw [if_pos (by rw [Bool.not_eq_true'] at h1; exact h1)]; rfl
  all_goals rw [if_neg (show ¬ clk now = false by rw [Bool.not_eq_false'] at h1; rw [h1]; decide)]
  · rw [if_pos h2]; rfl
  all_goals rw [if_neg (show ¬ decide (now < a.Started) = true by rw [show decide (now < a.Started) = false from h2]; decide)]
  · rw [if_pos h3]; rfl
  all_goals rw [if_neg (show ¬ decide (now < a.LastBeat) = true by rw [show decide (now < a.LastBeat) = false from h3]; decide)]
  · rw [if_pos (by rw [Bool.not_eq_true'] at h4; exact h4)]; rfl
  · rw [if_neg (show ¬ right d = false by rw [Bool.not_eq_false'] at h4; rw [h4]; decide)]
theorem bt_aok {a : GAct} (ha : aok a) (now t : Int) {d : GVal} (hd : d.ok) : aok (bt a now t d).1 := by
  unfold bt
  split; exact az_aok
  split; exact az_aok
  split; exact az_aok
  split; exact az_aok
  split; exact az_aok
  exact ⟨ha.1, ha.2.1, hd⟩
def sch (e : GEvent) : GAct := if (e.Kind != 7) = true then az else GAct.mk e.Seq e.ID e.Name e.Data e.Opts 1 1 e.Time e.Time 0 0 0 false vz (⟨#[]⟩ : ByteArray)
theorem sch_aok {e : GEvent} (hd : e.Data.ok) (ho : e.Opts.ok) : aok (sch e) := by
  unfold sch; split
  · exact az_aok
  · exact ⟨hd, ho, vz_ok⟩
theorem m99g (e : GEvent) (hd : e.Data.ok) (ho : e.Opts.ok) : Try.m99.R e (sch e) := by
  refine U.run_ite (fun h => U.run_ret ?_) (fun h => U.run_call _ (m161 (GAct.mk e.Seq e.ID e.Name e.Data e.Opts 1 1 e.Time e.Time 0 0 0 false vz (⟨#[]⟩ : ByteArray)) ⟨hd, ho, vz_ok⟩) (U.run_ret ?_))
  · show _ = _; unfold sch; rw [if_pos h]; rfl
  · show _ = _; unfold sch; rw [if_neg (by rw [h]; decide)]
theorem m119 (e : GEvent) : Try.m119.R e (sch e) := by
  refine U.run_ite (fun h => U.run_ret ?_) (fun h => U.run_ret ?_)
  · show _ = _; unfold sch; rw [if_pos h]; rfl
  · show _ = _; unfold sch; rw [if_neg (by rw [h]; decide)]; rfl
theorem m121 (a : GAct) : Try.m121.R a (can a) := U.run_ret rfl
theorem law29 (a : GAct) (ha : aok a) (e : GEvent) (hd : e.Data.ok) (ho : e.Opts.ok) (now t : Int) (d : GVal) (hv : d.ok) : Try.m29.R (a, e, now, t, d) true := by
  have hc : aok (can a) := ha
  refine U.run_call _ (m88 a ha) (U.run_ite (fun _ => U.run_call _ m89 (U.run_ret rfl)) (fun _ => U.run_call _ (m98 e hd ho) (U.run_ite (fun _ => U.run_call _ m89 (U.run_ret rfl)) (fun _ => U.run_call _ (m98 (GEvent.mk 0 0 0 0 0 0 0 (⟨#[]⟩ : ByteArray) (⟨#[]⟩ : ByteArray) d oz) hv oz_ok) (U.run_ite (fun _ => U.run_call _ m89 (U.run_ret rfl)) (fun _ => ?_))))))
  refine U.run_call _ (m96 a ha now t) (U.run_call _ (m116 a now t) (U.run_call _ (m117 a ha now t d hv) (U.run_call _ (m118 a now t d hv) (U.run_call _ (m99g e hd ho) (U.run_call _ (m119 e) (U.run_call _ (m94 _ (sch_aok hd ho)) ?_))))))
  refine U.run_t rfl (U.run_t (by simp) (U.run_call _ (m94 _ (stt_aok ha now t)) (U.run_t rfl (U.run_call _ (m94 _ (bt_aok ha now t hv)) (U.run_t rfl (U.run_t (by simp) (U.run_t (by simp) (U.run_call _ (m97 a t) (U.run_call _ (m120 a t) (U.run_t (by simp) ?_))))))))))
  exact U.run_call _ (m100 a ha) (U.run_call _ (m121 a) (U.run_call _ (m94 _ hc) (U.run_t rfl (U.run_call _ m89 (U.run_ret rfl)))))
end AC
theorem Try.k29 (a : GAct) (ha : a.ok) (e : GEvent) (he : e.ok) (now t : Int) (d : GVal) (hd : d.ok) : AV.Spec Try.prog 29 [.agg a.cs, .agg e.cs, .one (.int .i64 now), .one (.int .i64 t), .agg d.cs] [.one (.c (.bool true))] :=
  SpecG.toSpec (ds := [.agg a.cs, .agg e.cs, .one (.int .i64 now), .one (.int .i64 t), .agg d.cs]) (Try.m29.ok (a, e, now, t, d) true (AC.law29 a (AC.aok_of ha) e he.2.2.2.2.2.2.2.2.2.1 he.2.2.2.2.2.2.2.2.2.2.1 now t d hd))
end Go.Proofs
