/- The law RetryDefault returns true for every input. -/
import Derived.Test.YtlgnflbekdldnaaAvF21
import Derived.Test.YtlgnflbekdldnaaAvHead
import Derived.Test.YtlgnflbekdldnaaRows
import Derived.WalkKit
import Derived.ProofKit
import Derived.OpenShut
import Derived.ShutString
import Derived.ChangeOld
import Derived.Below
import Derived.SizedLaws
set_option linter.unusedVariables false
namespace Go.Proofs
open Go.AV
theorem Try.law13 (o : GPolicy) (h : o.ok) : AV.Spec Try.prog 13 [.agg o.cs] [.one (.c (.bool true))] := Try.k13 o h
end Go.Proofs
namespace Go.Proofs.Ytlgnflbekdldnaa.retryDefault
open Go Go.Proofs Go.AV Go.ChangeShapes Go.WideShapes Go.ChangeAt Go.RowKit
theorem own : ownKnob Try.prog.godebug = none := by kernel_rfl
theorem laidOut : laidOutB Try.prog = true := by kernel_rfl
set_option maxRecDepth 100000 in
theorem lifted (os : Os) (started : os.Started) (H : Type) (enc : TypeId × Value → H) :
    ReturnsInHanded {} Try.checked os 13 .any (Rows.retryDefaultSpec.pre6 enc Try.prog Try.f13 Rows.retryDefaultRow.domain false) (Rows.retryDefaultSpec.post enc Try.prog Try.f13 false true false false) := by
  refine returnsInHanded_of_change_sized (C := Try.checked) own started (by kernel_rfl) Try.func13
    (ChangeSpec.witness6 (enc := enc) (C := Try.checked) false ⟨#[], #[.agg #[.string ByteArray.empty, .int .i64 0, .int .i64 0, .int .i64 0, .int .i64 0, .int .i64 0, .int .i64 0, .int .i64 0, .int .i64 0, .slice none 0 0]], []⟩ 8 (by kernel_rfl) (by kernel_rfl) (by kernel_rfl) (by kernel_rfl)) ?_
  intro W base args ds gs before hval0 hW hcnd hsz0 _
  have hsz : (DataW.weightsEach Try.prog (Try.f13.params.toList ++ Rows.retryDefaultSpec.plain.varTypes Try.prog) (ds ++ gs)).all (· ≤ reachBytes) = true := hsz0
  have hval : ∀ (j : Nat) t v, Try.f13.params[j]? = some t → args[j]? = some v → Value.okWide Try.prog W .any base t v := hval0
  have hW' := hW
  obtain ⟨p, q, hA0, hV, rfl, hfz, hnd⟩ := hW
  have hA : DataW.TrodAll enc Try.prog W 0 (fun _ => true) true Try.f13.params.toList args.toList ds p := hA0
  rw [Try.params13] at hA hval hsz
  obtain ⟨v0, vs0, d0, ds0, p0, q0, hargs, rfl, rfl, h0, r0⟩ := trodAll_cons hA
  obtain ⟨rfl, rfl, rfl⟩ := trodAll_nil r0
  obtain rfl : args = #[v0] := by cases args; simp_all
  obtain ⟨rfl, rfl⟩ := trodVars_none hV
  have o0 := hval 0 27 v0 rfl rfl
  have y0 : ∀ y ∈ d0.weights Try.prog 27, y ≤ reachBytes := fun y hy => by simpa using List.all_eq_true.1 hsz y (DataW.weights_mem_each (j := 0) (t := 27) rfl rfl y hy)
  have lt0 : ∀ x ∈ p0, x.block < W.heap.size := by obtain ⟨m, hm⟩ := h0; exact DataW.trod_lt m _ _ _ hm
  obtain ⟨z0, e0, g0⟩ := arg_agg Try.underlying27 (fun n => Try.open27 n) o0 h0 y0
  clear hA0 hval0 hsz0 hsz
  refine (spec_true (vs := [v0]) (Try.law13 z0 g0) (RepDVs.cons e0 RepDVs.nil)).mono fun e W' hh => ?_
  obtain ⟨rfl, bel⟩ := hh
  exact ⟨_, rfl, _, _, _, [], _, [], hW', trodAll_mk1 (shut_bool Try.underlying4 _), (trodAll_cons_mk (Below.trod laidOut (by kernel_rfl) (of_decide_eq_true (by kernel_rfl)) h0 bel lt0) trodAll_mk0), rfl, bel.frame _, fun h => by cases h⟩
theorem facts : joinedFacts Try.prog 13 Try.f13 Rows.retryDefaultSpec Rows.retryDefaultRow = true := by
  unfold joinedFacts
  rw [Try.make, Try.may, Try.fin]
  kernel_rfl
theorem over : Rows.retryDefaultRow.holds Try.pinned (OpenSpec.ofChange Rows.retryDefaultSpec) :=
  OpenClaim.holds_of_wide 13 Try.f13 rfl rfl rfl rfl rfl rfl rfl ⟨rfl, rfl, rfl, rfl, rfl⟩ rfl rfl rfl rfl rfl (by kernel_rfl) Try.func13 facts
    (of_decide_eq_true (by kernel_rfl)) (by unfold Func.isWrapper; first | (rw [if_pos (by decide +kernel)]; kernel_rfl) | (rw [if_neg (by decide +kernel)]; exact ⟨rfl, rfl⟩))
    (fun os started H enc _ => lifted os started H enc)
theorem proved : Rows.RetryDefaultSaid := over
#print axioms proved
end Go.Proofs.Ytlgnflbekdldnaa.retryDefault
namespace Go.Proofs.Ytlgnflbekdldnaa
/-- The law holds. -/
theorem retryDefault_holds : Rows.RetryDefaultSaid := retryDefault.proved
end Go.Proofs.Ytlgnflbekdldnaa
