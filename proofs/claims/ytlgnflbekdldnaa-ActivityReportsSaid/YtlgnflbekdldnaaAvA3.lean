/- Layer 36: the example, the laws. -/
import Derived.Test.YtlgnflbekdldnaaAvA2
set_option linter.unusedVariables false
set_option maxRecDepth 4000
namespace Go.Proofs
open Go Go.AV
namespace AC
open VU AP
attribute [local irreducible] Runs
theorem az_aok : aok az := ⟨vz_ok, oz_ok, vz_ok⟩
theorem stt_aok {a : GAct} (ha : aok a) (now t : Int) : aok (stt a now t).1 := by
  unfold stt
  split; exact az_aok
  split; exact az_aok
  split; exact az_aok
  exact ha
theorem agn_aok {a : GAct} (ha : aok a) (now : Int) (f : ByteArray) (s : Int) : aok (agn a now f s).1 := by
  unfold agn
  split; exact ha
  split; exact ha
  split; exact ha
  split; exact ha
  split; exact ha
  exact ha
theorem fl_aok {a : GAct} (ha : aok a) (now : Int) (f : ByteArray) (s : Int) : aok (fl a now f s).1 := by
  unfold fl; split
  · exact agn_aok ha now f s
  · exact ha
theorem xp_aok {a : GAct} (ha : aok a) (now s : Int) : aok (xp a now s).1 := by
  unfold xp; split
  · exact ha
  · split
    · exact agn_aok ha now tmo s
    · exact ha
/-! ### The example -/
def p1 : GPolicy := GPolicy.mk (⟨#[]⟩ : ByteArray) 0 0 0 0 2 200 0 3 []
def p2 : GPolicy := GPolicy.mk (⟨#[]⟩ : ByteArray) 0 5 0 0 0 0 0 1 []
theorem p1_ok : p1.ok := ⟨by decide, rfl, rfl, rfl, rfl, rfl, rfl, rfl, rfl, ⟨by simp [p1], by decide⟩, trivial⟩
theorem p2_ok : p2.ok := ⟨by decide, rfl, rfl, rfl, rfl, rfl, rfl, rfl, rfl, ⟨by simp [p2], by decide⟩, trivial⟩
def bad : ByteArray := ⟨#[98, 97, 100]⟩
def e1 : GEvent := GEvent.mk 5 7 0 1 0 0 0 (⟨#[97]⟩ : ByteArray) (⟨#[]⟩ : ByteArray) vz p1
def X : Nat → GAct
  | 0 => GAct.mk 1 5 (⟨#[97]⟩ : ByteArray) vz p1 1 1 0 0 0 0 0 false vz (⟨#[]⟩ : ByteArray)
  | n + 1 => (fl (stt (X n) (X n).Due ((n : Int) + 1)).1 (stt (X n) (X n).Due ((n : Int) + 1)).1.Started bad 0).1
def Bq (n : Nat) : GAct := (stt (X n) (X n).Due ((n : Int) + 1)).1
theorem X_aok : ∀ n, aok (X n)
  | 0 => ⟨vz_ok, p1_ok, vz_ok⟩
  | n + 1 => fl_aok (stt_aok (X_aok n) _ _) _ _ _
def a2 : GAct := GAct.mk 0 0 (⟨#[]⟩ : ByteArray) vz p2 2 1 0 0 10 0 1 false vz (⟨#[]⟩ : ByteArray)
theorem a2_aok : aok a2 := ⟨vz_ok, p2_ok, vz_ok⟩
theorem m99 : Try.m99.R e1 (X 0) := U.run_f rfl (U.run_call _ (m161 (X 0) (X_aok 0)) (U.run_ret rfl))
def dues : List Int := [0, 2, 6]
theorem loop (n : Nat) (hn : n < 3) (h1 : (X n).Due = dues.getD n 0) (h2 : (stt (X n) (X n).Due ((n : Int) + 1)).2 = 0) (h3 : chk (Bq n) ((n : Int) + 1) = 0)
    (h4 : (fl (Bq n) (Bq n).Started bad 0).2.Retry = decide ((n : Int) < 2)) (h5 : n = 2 → (fl (Bq n) (Bq n).Started bad 0).2.Kind = 10 ∧ (fl (Bq n) (Bq n).Started bad 0).2.Name = bad)
    (h : Ev Try.c89 (.s0 (X (n + 1)) dues ((n + 1 : Nat) : Int)) true) : Ev Try.c89 (.s0 (X n) dues n) true := by
  have hw : IntKind.i64.wrap ((n : Int) + 1) = (n : Int) + 1 := by rw [JT.i64w]; omega
  have hl : n < dues.length := hn
  have hx : dues[n] = dues.getD n 0 := by rw [List.getD_eq_getElem?_getD, List.getElem?_eq_getElem hl]; rfl
  have c1 := m96 (X n) (X_aok n) (X n).Due (IntKind.i64.wrap ((n : Int) + 1))
  have c2 := m97 (Bq n) (IntKind.i64.wrap ((n : Int) + 1))
  have c3 := m90 (Bq n) (stt_aok (X_aok n) _ _) (Bq n).Started bad 0
  rw [hw] at c1 c2
  have g : Ev Try.c89 (.s0 (X (n + 1)) dues ((n : Int) + 1)) true := h
  refine Ev.intro (U.run_t (decide_eq_true (by omega)) (run_idx hl (run_egetX hl hx (U.run_f ?_ ?_))))
  · rw [h1]; simp
  rw [hw]
  refine U.run_call _ c1 (U.run_f ?_ (U.run_call _ c2 (U.run_f ?_ (U.run_call _ c3 (U.run_f ?_ (U.run_ite (fun hb => U.run_f ?_ (U.run_f ?_ (U.run_jump g))) (fun hb => U.run_jump g)))))))
  · rw [h2]; rfl
  · rw [h3]; rfl
  · rw [h4]; simp
  · have hb' : n = 2 := by have : ((n : Int) == 2) = true := hb; simp at this; omega
    rw [(h5 hb').1]; rfl
  · have hb' : n = 2 := by have : ((n : Int) == 2) = true := hb; simp at this; omega
    rw [(h5 hb').2]; decide +kernel
theorem run_frz {P : Program} {J Y : Type} {K : J ⊕ Y → Prop} {a b : Nat} {k : Cert P J Y} (h : Runs k K) : Runs (.frz a b k) K := by unfold Runs; exact h
theorem m89 : Try.m89.R () true := by
  have hend : Ev Try.c89 (.s0 (X 3) dues 3) true := by
    have x1 : (xp a2 14 0).2.Kind = 0 ∧ (xp a2 14 0).2.Retry = false ∧ (xp a2 14 0).2.Code = 0 ∧ (xp a2 14 0).2.Name = ⟨#[]⟩ := by decide +kernel
    have x2 : (xp a2 15 0).2.Kind = 11 ∧ (xp a2 15 0).2.Retry = false ∧ (xp a2 15 0).2.Code = 2 ∧ (xp a2 15 0).2.Name = ⟨#[]⟩ := by decide +kernel
    refine Ev.intro (U.run_f rfl (U.run_call _ (m92 a2 a2_aok 14 0) (U.run_call _ (m92 a2 a2_aok 15 0) (U.run_t ?_ (U.run_ret ?_)))))
    · rw [x1.1, x1.2.1, x1.2.2.1, x1.2.2.2]; decide +kernel
    · show _ = true
      rw [x2.1, x2.2.1, x2.2.2.1, x2.2.2.2]; decide +kernel
  refine U.run_call _ m99 (U.run_bld (run_frz (run_frz (run_frz (run_frz (run_frz (U.run_jump ?_)))))))
  show Ev Try.c89 (.s0 (X 0) dues ((0 : Nat) : Int)) true
  refine loop 0 (by decide) (by decide +kernel) (by decide +kernel) (by decide +kernel) (by decide +kernel) (fun h => absurd h (by decide)) ?_
  refine loop 1 (by decide) (by decide +kernel) (by decide +kernel) (by decide +kernel) (by decide +kernel) (fun h => absurd h (by decide)) ?_
  refine loop 2 (by decide) (by decide +kernel) (by decide +kernel) (by decide +kernel) (by decide +kernel) (fun _ => by decide +kernel) ?_
  exact hend
/-! ### Bounds -/
theorem raw_bnd {o : GPolicy} (h : RT.right o = true) (a : Int) : 0 ≤ RT.raw o a ∧ RT.raw o a ≤ 1099511627776 := by
  have hF := RT.fill_fil (RT.right_bnd h)
  have := RT.it_bnd hF (RT.rounds a) _ (RT.start_bnd hF)
  have hm := hF.most
  unfold RT.raw; omega
theorem jit_nn (s a b : Int) (hb : 0 ≤ b) : 0 ≤ JT.jit s a b := by
  unfold JT.jit
  have h1 := JT.below_bnd s a
  split
  · exact hb
  · exact Int.tdiv_nonneg (Int.mul_nonneg hb (by omega)) (by decide)
theorem dl_bnd (o : GPolicy) (a s : Int) : 0 ≤ dl o a s ∧ dl o a s ≤ 1099511627776 := by
  unfold dl RT.delay
  split
  · omega
  · rename_i h
    have hr : RT.right o = true := by
      cases h' : RT.right o
      · exact absurd (.inr h') h
      · rfl
    have := raw_bnd hr a
    have := jit_nn s a (RT.raw o a) this.1
    unfold RT.mn
    split <;> (try split) <;> omega
theorem ag_true {o : GPolicy} {a : Int} {f : ByteArray} {p s : Int} (h : (ag o a f p s).2 = true) : (ag o a f p s).1 = dl o a s := by
  by_cases hn : a < 1 ∨ 1000 ≤ a ∨ p < 0 ∨ RT.right o = false ∨ RT.fatal o f = true
  · rw [ag_no hn] at h; cases h
  · rw [ag_yes hn] at h ⊢
    by_cases h1 : 0 < o.Attempts ∧ o.Attempts ≤ a
    · rw [if_pos h1] at h; cases h
    · rw [if_neg h1] at h ⊢
      by_cases h2 : 0 < o.Total ∧ o.Total - p ≤ dl o a s
      · rw [if_pos h2] at h; cases h
      · rw [if_neg h2]
theorem agn_cases (a : GAct) (now : Int) (f : ByteArray) (s : Int) :
    agn a now f s = (a, false) ∨ (a.Cancel = false ∧ clk now = true ∧ ∃ d, 0 ≤ d ∧ d ≤ 1099511627776 ∧ agn a now f s = (nxt a now f d, true)) := by
  unfold agn
  by_cases h1 : a.Cancel = true
  · rw [if_pos h1]; exact .inl rfl
  rw [if_neg h1]
  by_cases h2 : clk now = false
  · rw [if_pos h2]; exact .inl rfl
  rw [if_neg h2]
  by_cases h3 : decide (a.Scheduled < 0) = true
  · rw [if_pos h3]; exact .inl rfl
  rw [if_neg h3]
  by_cases h4 : decide (now < a.Scheduled) = true
  · rw [if_pos h4]; exact .inl rfl
  rw [if_neg h4]
  by_cases h5 : (agr a now f s).2 = false
  · rw [if_pos h5]; exact .inl rfl
  rw [if_neg h5]
  have h5' : (agr a now f s).2 = true := by simpa using h5
  have e : (agr a now f s).1 = dl a.Opts a.Attempt s := ag_true h5'
  have hb := dl_bnd a.Opts a.Attempt s
  exact .inr ⟨by simpa using h1, by simpa using h2, _, by rw [e]; exact hb.1, by rw [e]; exact hb.2, rfl⟩
theorem stt_cases (a : GAct) (now t : Int) : ((stt a now t).2 != 0) = true ∨ (stt a now t = (GAct.mk a.Seq a.Event a.Name a.Data a.Opts 2 a.Attempt a.Scheduled a.Due now 0 t a.Cancel a.Details a.Failure, 0) ∧ clk now = true ∧ ¬ t < 1 ∧ ¬ now < a.Due) := by
  unfold stt
  by_cases h1 : (!clk now || decide (t < 1)) = true
  · rw [if_pos h1]; exact .inl rfl
  rw [if_neg h1]
  by_cases h2 : (a.State != 1) = true
  · rw [if_pos h2]; exact .inl rfl
  rw [if_neg h2]
  by_cases h3 : decide (now < a.Due) = true
  · rw [if_pos h3]; exact .inl rfl
  rw [if_neg h3]
  simp only [Bool.or_eq_true, Bool.not_eq_true', decide_eq_true_eq, not_or] at h1
  exact .inr ⟨rfl, by simpa using h1.1, h1.2, by simpa using h3⟩
/-! ### The laws -/
theorem law22 (a : GAct) (ha : aok a) (now : Int) (f : ByteArray) (s : Int) : Try.m22.R (a, now, f, s) true := by
  refine U.run_call _ (m88 a ha) (U.run_ite (fun _ => U.run_call _ m89 (U.run_ret rfl)) (fun _ => U.run_ite (fun _ => U.run_call _ m89 (U.run_ret rfl)) (fun _ => ?_)))
  refine U.run_call _ (m90 a ha now f s) (U.run_call _ (m91 a ha now f s) (U.run_call _ (m92 a ha now s) (U.run_call _ (m93 a ha now s) ?_)))
  exact U.run_call _ (m94 _ (fl_aok ha now f s)) (U.run_t rfl (U.run_call _ (m95 _) (U.run_t rfl (U.run_call _ (m94 _ (xp_aok ha now s)) (U.run_t rfl (U.run_call _ (m95 _) (U.run_t rfl (U.run_call _ m89 (U.run_ret rfl)))))))))
theorem law23 (a : GAct) (ha : aok a) (now t o : Int) (f : ByteArray) (s : Int) : Try.m23.R (a, now, t, o, f, s) true := by
  have lives : ∀ {K : Try.J23 ⊕ Bool → Prop}, K (.inr true) → Runs (P := Try.prog) (.call Try.m89 () fun r2 => .ret r2) K := fun h => U.run_call _ m89 (U.run_ret h)
  refine U.run_call _ (m88 a ha) (U.run_ite (fun _ => U.run_call _ m89 (U.run_ret rfl)) (fun _ => U.run_ite (fun _ => U.run_call _ m89 (U.run_ret rfl)) (fun _ => ?_)))
  have c1 := m96 a ha now t
  have hbk := stt_aok ha now t
  rcases stt_cases a now t with h0 | ⟨e, hclk, ht, hd⟩
  · exact U.run_call _ c1 (U.run_t h0 (U.run_call _ m89 (U.run_ret rfl)))
  rw [e] at c1 hbk
  let b : GAct := GAct.mk a.Seq a.Event a.Name a.Data a.Opts 2 a.Attempt a.Scheduled a.Due now 0 t a.Cancel a.Details a.Failure
  have hb : aok b := hbk
  have hs0 : Ev Try.c23 (.s0 now t f s a b) true := by
    refine Ev.intro (U.run_call _ (m90 b hb now f s) ?_)
    rcases agn_cases b now f s with h1 | ⟨hcan, _, d, hd0, hd1, h1⟩
    · have e2 : fl b now f s = (b, GAOutcome.mk 10 false 0 f) := by unfold fl; rw [h1]; rfl
      rw [e2]
      exact U.run_t rfl (U.run_t rfl (U.run_call _ (m94 b hb) (U.run_t rfl (U.run_call _ m89 (U.run_ret rfl)))))
    · have e2 : fl b now f s = (nxt b now f d, rt) := by unfold fl; rw [h1]; rfl
      have hx : aok (nxt b now f d) := hb
      rw [e2]
      unfold clk at hclk
      simp only [Bool.and_eq_true, decide_eq_true_eq] at hclk
      have hwd : IntKind.i64.wrap (now + d) = now + d := JT.i64w (by omega)
      have hD : now ≤ cap (now + d) ∧ cap (now + d) ≤ 1099511627776 := by unfold cap; split <;> omega
      have hdue : (nxt b now f d).Due = cap (now + d) := by show cap (IntKind.i64.wrap (now + d)) = _; rw [hwd]
      generalize cap (now + d) = D at hD hdue
      have hw1 : IntKind.i64.wrap (D - 1) = D - 1 := JT.i64w (by omega)
      have k1 : (stt (nxt b now f d) D t).2 = 0 := by
        unfold stt
        have q1 : (!clk D || decide (t < 1)) = false := by
          unfold clk; rw [decide_eq_true (show 0 ≤ D by omega), decide_eq_true hD.2, decide_eq_false ht]; rfl
        rw [if_neg (by rw [q1]; decide), if_neg (show ¬ ((nxt b now f d).State != 1) = true from fun h => by cases h), hdue, if_neg (by simp)]
      have k2 : ((stt (nxt b now f d) (D - 1) t).2 != 0) = true := by
        unfold stt
        by_cases q1 : (!clk (D - 1) || decide (t < 1)) = true
        · rw [if_pos q1]; rfl
        · rw [if_neg q1, if_neg (show ¬ ((nxt b now f d).State != 1) = true from fun h => by cases h), hdue, if_pos (decide_eq_true (show D - 1 < D by omega))]; rfl
      have c13 := m96 (nxt b now f d) hx D t
      have c14 := m96 (nxt b now f d) hx (D - 1) t
      have k3 : chk (nxt b now f d) t = 24 := by unfold chk; rw [if_neg (fun q => by cases q.1)]
      have k4 : chk (nxt b now f d) 0 = 24 := by unfold chk; rw [if_neg (fun q => by cases q.1)]
      have c15 := m97 (nxt b now f d) t
      have c16 := m97 (nxt b now f d) 0
      rw [k3] at c15
      rw [k4] at c16
      refine U.run_f rfl (U.run_call (stt (nxt b now f d) D t) (by dsimp only; rw [hdue]; exact c13) (U.run_call (stt (nxt b now f d) (D - 1) t) (by dsimp only; rw [hdue, hw1]; exact c14) (U.run_call _ c15 (U.run_t rfl (U.run_call _ c16 (U.run_t rfl (U.run_t ?_ (U.run_t ?_ (U.run_t ?_ (U.run_t k2 (U.run_t ?_ (U.run_call _ m89 (U.run_ret rfl)))))))))))))
      · show ((nxt b now f d).Attempt == IntKind.i64.wrap (b.Attempt + 1)) = true
        show (IntKind.i64.wrap (b.Attempt + 1) == IntKind.i64.wrap (b.Attempt + 1)) = true
        simp
      · show decide (now ≤ (nxt b now f d).Due) = true
        rw [hdue]; exact decide_eq_true hD.1
      · rw [k1]; rfl
      · have hca : a.Cancel = false := hcan
        show (!a.Cancel) = true
        rw [hca]; rfl
  have hfin : ∀ {y : Bool}, y = true → Runs (P := Try.prog) (J := Try.J23) (.ite 71 (decide (now < a.Due)) (.ret false) (.jump (.s0 now t f s a b) [(6000, 1), (13000, 1), (34006, 1), (34007, 1), (34017, 1), (34029, 1), (34030, 1)])) (KOf (fun j => Ev Try.c23 j y) y) := by
    rintro y rfl
    exact U.run_f (decide_eq_false hd) (U.run_jump hs0)
  have kt : chk b t = 0 := by unfold chk; rw [if_pos ⟨rfl, by simp [b]⟩]
  have c2 := m97 b t
  rw [kt] at c2
  have c3 := m97 b o
  refine U.run_call _ c1 (U.run_f rfl (U.run_call _ c2 (U.run_f rfl (U.run_call _ c3 ?_))))
  by_cases ho : o = t
  · subst ho
    rw [kt] at c3 ⊢
    exact U.run_f rfl (U.run_call _ c3 (U.run_t rfl (U.run_f (by simp) (hfin rfl))))
  · have ko : chk b o = 24 := by unfold chk; rw [if_neg (fun q => by have := q.2; simp [b] at this; exact ho this.symm)]
    rw [ko] at c3 ⊢
    exact U.run_t rfl (U.run_f (by simp [ho]) (U.run_call _ c3 (U.run_f rfl (hfin rfl))))
end AC
theorem Try.k22 (a : GAct) (ha : a.ok) (now : Int) (f : ByteArray) (s : Int) : AV.Spec Try.prog 22 [.agg a.cs, .one (.int .i64 now), .one (.str f), .one (.int .i64 s)] [.one (.c (.bool true))] :=
  SpecG.toSpec (ds := [.agg a.cs, .one (.int .i64 now), .one (.str f), .one (.int .i64 s)]) (Try.m22.ok (a, now, f, s) true (AC.law22 a (AC.aok_of ha) now f s))
theorem Try.k23 (a : GAct) (ha : a.ok) (now t o : Int) (f : ByteArray) (s : Int) : AV.Spec Try.prog 23 [.agg a.cs, .one (.int .i64 now), .one (.int .i64 t), .one (.int .i64 o), .one (.str f), .one (.int .i64 s)] [.one (.c (.bool true))] :=
  SpecG.toSpec (ds := [.agg a.cs, .one (.int .i64 now), .one (.int .i64 t), .one (.int .i64 o), .one (.str f), .one (.int .i64 s)]) (Try.m23.ok (a, now, t, o, f, s) true (AC.law23 a (AC.aok_of ha) now t o f s))
end Go.Proofs
