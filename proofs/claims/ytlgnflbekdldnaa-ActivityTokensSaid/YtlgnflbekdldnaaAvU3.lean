/- Well-formed values, copies, names. -/
import Derived.Test.YtlgnflbekdldnaaAvU2
set_option linter.unusedVariables false
set_option maxRecDepth 4000
namespace Go.Proofs
open Go Go.AV
namespace VU
attribute [local irreducible] Runs
theorem pos0 (n : Nat) : decide (0 < (n : Int)) = !decide ((n : Int) = 0) := by
  cases n with
  | zero => rfl
  | succ n => rw [decide_eq_true (by omega), decide_eq_false (by omega)]; rfl
theorem form196 : ∀ n (v : GVal) (b : Bool), SizeOf.sizeOf v < n → v.ok → (Try.n196 n).1 (v, b) (VV.wf b v)
  | 0, v, b, h, _ => absurd h (Nat.not_lt_zero _)
  | n + 1, v, b, h, hv => by
    obtain ⟨h1, h2⟩ := GVal.okI hv
    obtain ⟨h3, h4⟩ := GVal.okK hv
    have hrec : Ev (Try.c196 (Try.n196 n).1 (Try.n196 n).2) (.s0 v b) (v.Items.all (VV.wf b)) := by
      refine Ev.intro (U.run_call _ (has221 v.Items _ (fun x => !VV.wf b x) (fun x hx => U.run_call _ (form196 n x b (sub h hx) (h1 _ hx)) (U.run_ret rfl)) (reach80 h2)) (U.run_ret ?_))
      show _ = _
      exact not_any_not _ _
    have hasc := asc220 v.Keys (reach16 h4)
    refine U.run_len (U.run_len ?_)
    rcases VV.wf_kinds b v with ⟨hk, hw⟩ | ⟨hk, hw⟩ | ⟨hk, hw⟩ | ⟨hk, hw⟩ | ⟨hk, hw⟩ | ⟨hk, hw⟩ | ⟨hk, hw⟩ | ⟨⟨k0, k1, k2, k6, k3, k4, k5⟩, hw⟩
    case inr.inr.inr.inr.inr.inr.inr =>
      rw [hw]
      refine U.run_f (by simpa using k0) (U.run_f (by simpa using k1) (U.run_f (by simpa using k2) (U.run_f (by simpa using k6) (U.run_f (by simpa using k3) (U.run_f (by simpa using k4) (U.run_f (by simpa using k5) (U.run_ret rfl)))))))
    all_goals rw [hw]
    all_goals repeat' (first
      | refine U.run_len ?_
      | refine U.run_f (by rw [hk]; decide) ?_
      | refine U.run_t (by rw [hk]; decide) ?_
      | refine U.run_call _ hasc ?_
      | refine U.run_ite (fun hb => ?_) (fun hb => ?_)
      | refine U.run_ret ?_
      | refine U.run_jump ?_)
    all_goals first
      | (show Ev _ _ _; simp [strEq_iff] at *; simp_all; done)
      | (show _ = _; simp only [pos0, strEq_iff, bne, Bool.not_not] at *; simp [-Int.natCast_eq_zero, -List.length_eq_zero_iff] at *; simp_all [-Int.natCast_eq_zero, -List.length_eq_zero_iff]; done)
      | (have hb' : decide (0 ≤ v.Num) = false := (by assumption); show _ = _; rw [hb']; simp; done)
theorem beqI (a b : Int) : (a == b) = decide (a = b) := rfl
theorem form200 : ∀ n (v : GVal), SizeOf.sizeOf v < n → v.ok → (Try.n200 n).1 v (VV.wf true v)
  | 0, v, h, _ => absurd h (Nat.not_lt_zero _)
  | n + 1, v, h, hv => by
    obtain ⟨h1, h2⟩ := GVal.okI hv
    obtain ⟨h3, h4⟩ := GVal.okK hv
    have hasc := asc224 v.Keys (reach16 h4)
    rw [VV.wf_eq]
    refine U.run_jump ?_
    show Ev _ _ _
    refine (U.ev_for v.Items (fun i (_ : Unit) => Try.J200.s0 v i) (fun _ _ => True) (fun l _ => VV.base true v.Kind v.Num v.Text (v.Items.length : Int) v.Keys && l.all (VV.wf true)) (reach80 h2) ?_ ?_ () trivial :)
    · intro s _
      refine U.run_len (U.run_f U.dec_f ?_)
      dsimp only [List.all_nil]
      rw [Bool.and_true]
      have hb0 : ∀ b, b = VV.base true v.Kind v.Num v.Text (v.Items.length : Int) v.Keys → b = VV.base true v.Kind v.Num v.Text (v.Items.length : Int) v.Keys := fun _ h => h
      generalize hB : VV.base true v.Kind v.Num v.Text (v.Items.length : Int) v.Keys = B at *
      clear hb0
      have hB' : VV.base true v.Kind v.Num v.Text (v.Items.length : Int) v.Keys = B := hB
      unfold VV.base at hB'
      repeat' (first
        | refine U.run_len ?_
        | refine U.run_call _ hasc ?_
        | refine U.run_ite (fun hb => ?_) (fun hb => ?_)
        | refine U.run_ret ?_)
      all_goals (show _ = _; try simp only [strEq_iff, beqI] at *)
      all_goals (try simp only [decide_eq_true_eq, decide_eq_false_iff_not] at *)
      all_goals (simp_all [-Int.natCast_eq_zero, -List.length_eq_zero_iff]; done)
    · intro i hi s _ hw ht x r hx hm y hy ih
      refine U.run_len (U.run_t ht (U.run_elemX hi hx (U.run_call _ (form200 n _ (sub h hm) (h1 _ hm)) ?_)))
      refine U.run_ite (fun hb => U.run_ret ?_) (fun hb => U.run_jump ?_)
      · show _ = _
        simp at hb; rw [hy]; simp [hb]
      · show Ev _ _ _
        simp at hb
        rw [hw]; refine ih () trivial ?_
        rw [hy]; simp [hb]
end VU
end Go.Proofs
