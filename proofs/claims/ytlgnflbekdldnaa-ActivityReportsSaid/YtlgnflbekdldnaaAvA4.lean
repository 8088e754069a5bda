/- Layer 36: the attempts of an activity. -/
import Derived.Test.YtlgnflbekdldnaaAvTN
import Derived.Test.YtlgnflbekdldnaaAvA3
set_option linter.unusedVariables false
set_option maxRecDepth 4000
namespace Go.Proofs
open Go Go.AV
namespace AC
open VU AP
attribute [local irreducible] Runs
def can (a : GAct) : GAct := GAct.mk a.Seq a.Event a.Name a.Data a.Opts a.State a.Attempt a.Scheduled a.Due a.Started a.LastBeat a.Token true a.Details a.Failure
theorem m100 (a : GAct) (ha : aok a) : Try.m100.R a (can a) := U.run_call _ (m161 a ha) (U.run_ret rfl)
theorem ag_lim {o : GPolicy} {a : Int} {f : ByteArray} {p s : Int} (h : (ag o a f p s).2 = true) : ¬ 1000 ≤ a ∧ ¬ (0 < o.Attempts ∧ o.Attempts ≤ a) := by
  by_cases hn : a < 1 ∨ 1000 ≤ a ∨ p < 0 ∨ RT.right o = false ∨ RT.fatal o f = true
  · rw [ag_no hn] at h; cases h
  · refine ⟨fun q => hn (.inr (.inl q)), fun q => ?_⟩
    rw [ag_yes hn, if_pos q] at h; cases h
theorem agn_lim {a : GAct} {now : Int} {f : ByteArray} {s : Int} (h : (agn a now f s).2 = true) : ¬ 1000 ≤ a.Attempt ∧ ¬ (0 < a.Opts.Attempts ∧ a.Opts.Attempts ≤ a.Attempt) := by
  have key : (agr a now f s).2 = true := by
    unfold agn at h
    by_cases h1 : a.Cancel = true
    · rw [if_pos h1] at h; cases h
    rw [if_neg h1] at h
    by_cases h2 : clk now = false
    · rw [if_pos h2] at h; cases h
    rw [if_neg h2] at h
    by_cases h3 : decide (a.Scheduled < 0) = true
    · rw [if_pos h3] at h; cases h
    rw [if_neg h3] at h
    by_cases h4 : decide (now < a.Scheduled) = true
    · rw [if_pos h4] at h; cases h
    rw [if_neg h4] at h
    by_cases h5 : (agr a now f s).2 = false
    · rw [if_pos h5] at h; cases h
    simpa using h5
  exact ag_lim key
theorem run_weak {P : Program} {J Y : Type} {K : J ⊕ Y → Prop} {f : FuncId} {A B : Type} {M : Mir P f A B} {x : A} {k : B → Cert P J Y} (y : B) (hr : M.R x y) (h : Runs (k y) K) : Runs (.call M.weak x k) K := U.run_call (M := M.weak) y hr h
theorem law24 (o : GPolicy) (ho : o.ok) (st : Int) (f : ByteArray) (s : Int) : Try.m24.R (o, st, f, s) true := by
  have hs2 : ∀ n : Int, n ≤ 1000 → (o.Attempts ≤ 0 ∨ n ≤ o.Attempts) → Ev Try.c24 (.s2 o n) true := by
    intro n h1 h2
    refine Ev.intro (U.run_t (decide_eq_true h1) (U.run_ite (fun _ => U.run_call _ m89 (U.run_ret rfl)) (fun h => U.run_t ?_ (U.run_call _ m89 (U.run_ret rfl)))))
    have h' : ¬ o.Attempts ≤ 0 := of_decide_eq_false h
    exact decide_eq_true (by omega)
  have loop : ∀ (m : Nat) (n : Int) (a : GAct), 0 ≤ n → n + m = 999 → a.Opts = o → a.State = 1 → a.Attempt = n + 1 → clk a.Due = true → aok a → (n = 0 ∨ o.Attempts ≤ 0 ∨ n < o.Attempts) → Ev Try.c24 (.s0 f s o a n) true := by
    intro m
    induction m with
    | zero =>
      intro n a h0 hn hO hS hA hD ha hL
      obtain rfl : n = 999 := by omega
      have hw : IntKind.i64.wrap ((999 : Int) + 1) = 1000 := by decide
      have e : stt a a.Due 1000 = (GAct.mk a.Seq a.Event a.Name a.Data a.Opts 2 a.Attempt a.Scheduled a.Due a.Due 0 1000 a.Cancel a.Details a.Failure, 0) := by
        unfold stt; rw [hD, if_neg (by decide), if_neg (by rw [hS]; decide), if_neg (by simp)]
      have c1 := m96 a ha a.Due 1000
      have hb := stt_aok ha a.Due 1000
      rw [e] at c1 hb
      generalize hbb : GAct.mk a.Seq a.Event a.Name a.Data a.Opts 2 a.Attempt a.Scheduled a.Due a.Due 0 1000 a.Cancel a.Details a.Failure = b at c1 hb
      have hbO : b.Opts = o := by rw [← hbb]; exact hO
      have hbA : b.Attempt = 1000 := by rw [← hbb]; show a.Attempt = 1000; rw [hA]; rfl
      have k1 : fl (can b) b.Started f s = (can b, GAOutcome.mk 10 false 0 f) := by unfold fl agn; rw [if_pos (show (can b).Cancel = true from rfl)]; rfl
      have c3 := m90 (can b) hb b.Started f s
      rw [k1] at c3
      refine Ev.intro (U.run_t (by decide) (U.run_call (b, 0) (by rw [hw]; exact c1) (U.run_f rfl (run_frz (run_frz (run_frz (run_frz (run_frz (U.run_jump ?_)))))))))
      show Ev _ _ _
      rw [hw]
      refine Ev.intro (run_weak _ (m100 b hb) (U.run_call _ c3 (U.run_f rfl (U.run_call _ (m90 b hb b.Started f s) (U.run_ite (fun _ => U.run_jump ?_) (fun h => ?_))))))
      · exact hs2 1000 (by decide) (by omega)
      · have h' : (agn b b.Started f s).2 = true := by
          rw [Bool.not_eq_false'] at h
          unfold fl at h
          by_cases q : (agn b b.Started f s).2 = true
          · exact q
          · rw [if_neg q] at h; cases h
        exact absurd (by rw [hbA]; decide) (agn_lim h').1
    | succ m ih =>
      intro n a h0 hn hO hS hA hD ha hL
      have hw : IntKind.i64.wrap (n + 1) = n + 1 := JT.i64w (by omega)
      have e : stt a a.Due (n + 1) = (GAct.mk a.Seq a.Event a.Name a.Data a.Opts 2 a.Attempt a.Scheduled a.Due a.Due 0 (n + 1) a.Cancel a.Details a.Failure, 0) := by
        unfold stt; rw [hD, decide_eq_false (show ¬ n + 1 < 1 by omega), if_neg (by decide), if_neg (by rw [hS]; decide), if_neg (by simp)]
      have c1 := m96 a ha a.Due (n + 1)
      have hb := stt_aok ha a.Due (n + 1)
      rw [e] at c1 hb
      generalize hbb : GAct.mk a.Seq a.Event a.Name a.Data a.Opts 2 a.Attempt a.Scheduled a.Due a.Due 0 (n + 1) a.Cancel a.Details a.Failure = b at c1 hb
      have hbO : b.Opts = o := by rw [← hbb]; exact hO
      have hbA : b.Attempt = n + 1 := by rw [← hbb]; exact hA
      have hbS : b.Started = a.Due := by rw [← hbb]
      have k1 : fl (can b) b.Started f s = (can b, GAOutcome.mk 10 false 0 f) := by unfold fl agn; rw [if_pos (show (can b).Cancel = true from rfl)]; rfl
      have c3 := m90 (can b) hb b.Started f s
      rw [k1] at c3
      refine Ev.intro (U.run_t (decide_eq_true (by omega)) (U.run_call (b, 0) (by rw [hw]; exact c1) (U.run_f rfl (run_frz (run_frz (run_frz (run_frz (run_frz (U.run_jump ?_)))))))))
      show Ev _ _ _
      rw [hw]
      refine Ev.intro (run_weak _ (m100 b hb) (U.run_call _ c3 (U.run_f rfl (U.run_call _ (m90 b hb b.Started f s) (U.run_ite (fun _ => U.run_jump ?_) (fun h => U.run_jump ?_))))))
      · exact hs2 (n + 1) (by omega) (by omega)
      · have h' : (agn b b.Started f s).2 = true := by
          rw [Bool.not_eq_false'] at h
          unfold fl at h
          by_cases q : (agn b b.Started f s).2 = true
          · exact q
          · rw [if_neg q] at h; cases h
        obtain ⟨l1, l2⟩ := agn_lim h'
        rw [hbA, hbO] at l2
        rcases agn_cases b b.Started f s with h1 | ⟨hcan, hck, d, hd0, hd1, h1⟩
        · rw [h1] at h'; cases h'
        have e2 : fl b b.Started f s = (nxt b b.Started f d, rt) := by unfold fl; rw [h1]; rfl
        rw [e2]
        show Ev Try.c24 (.s0 f s o (nxt b b.Started f d) (n + 1)) true
        have hwd : IntKind.i64.wrap (b.Started + d) = b.Started + d := by
          unfold clk at hck; simp only [Bool.and_eq_true, decide_eq_true_eq] at hck
          exact JT.i64w (by omega)
        refine ih (n + 1) _ (by omega) (by omega) hbO rfl ?_ ?_ hb (by omega)
        · show IntKind.i64.wrap (b.Attempt + 1) = n + 1 + 1
          rw [hbA, JT.i64w (by omega)]
        · show clk (cap (IntKind.i64.wrap (b.Started + d))) = true
          rw [hwd]
          unfold clk at hck ⊢; simp only [Bool.and_eq_true, decide_eq_true_eq] at hck ⊢
          unfold cap; split <;> omega
  refine U.run_call _ (m98 (GEvent.mk 0 0 0 0 0 0 0 (⟨#[]⟩ : ByteArray) (⟨#[]⟩ : ByteArray) vz o) vz_ok ho) (U.run_ite (fun _ => U.run_call _ m89 (U.run_ret rfl)) (fun _ => U.run_ite (fun _ => U.run_call _ m89 (U.run_ret rfl)) (fun _ => U.run_ite (fun _ => U.run_call _ m89 (U.run_ret rfl)) (fun h1 => U.run_ite (fun _ => U.run_call _ m89 (U.run_ret rfl)) (fun h2 => ?_)))))
  have h1' : ¬ st < 0 := of_decide_eq_false h1
  have h2' : ¬ 1000000 < st := of_decide_eq_false h2
  let a0 : GAct := GAct.mk 1 5 (⟨#[97]⟩ : ByteArray) vz o 1 1 st st 0 0 0 false vz (⟨#[]⟩ : ByteArray)
  have ha0 : aok a0 := ⟨vz_ok, ho, vz_ok⟩
  have c0 : Try.m99.R (GEvent.mk 5 7 st 1 0 0 0 (⟨#[97]⟩ : ByteArray) (⟨#[]⟩ : ByteArray) vz o) a0 := U.run_f rfl (U.run_call _ (m161 a0 ha0) (U.run_ret rfl))
  refine U.run_call _ c0 (run_frz (run_frz (run_frz (run_frz (run_frz (U.run_jump ?_))))))
  show Ev Try.c24 (.s0 f s o a0 0) true
  refine loop 999 0 a0 (by decide) (by decide) rfl rfl rfl ?_ ha0 (.inl rfl)
  show clk st = true
  unfold clk; rw [decide_eq_true (show 0 ≤ st by omega), decide_eq_true (show st ≤ 1099511627776 by omega)]; rfl
end AC
theorem Try.k24 (o : GPolicy) (ho : o.ok) (st : Int) (f : ByteArray) (s : Int) : AV.Spec Try.prog 24 [.agg o.cs, .one (.int .i64 st), .one (.str f), .one (.int .i64 s)] [.one (.c (.bool true))] :=
  SpecG.toSpec (ds := [.agg o.cs, .one (.int .i64 st), .one (.str f), .one (.int .i64 s)]) (Try.m24.ok (o, st, f, s) true (AC.law24 o ho st f s))
end Go.Proofs
