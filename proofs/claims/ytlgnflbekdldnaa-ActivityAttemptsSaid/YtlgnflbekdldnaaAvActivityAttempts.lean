/- The law ActivityAttempts returns true for every input. -/
import Derived.Test.YtlgnflbekdldnaaAvA4
import Derived.Test.YtlgnflbekdldnaaAvHead
import Derived.Test.YtlgnflbekdldnaaRows
import Derived.WalkKit
import Derived.ProofKit
import Derived.OpenShut
import Derived.ShutString
import Derived.ChangeOld
import Derived.Below
import Derived.SizedLaws
set_option linter.unusedVariables false
namespace Go.Proofs
open Go.AV
theorem Try.law24 (o : GPolicy) (ho : o.ok) (n : Int) (hn : IntKind.i64.wrap n = n) (f : ByteArray) (hf : f.size ≤ reachBytes) (s : Int) (hs : IntKind.i64.wrap s = s) :
    AV.Spec Try.prog 24 [.agg o.cs, .one (.int .i64 n), .one (.str f), .one (.int .i64 s)] [.one (.c (.bool true))] := Try.k24 o ho n f s
end Go.Proofs
namespace Go.Proofs.Ytlgnflbekdldnaa.activityAttempts
open Go Go.Proofs Go.AV Go.ChangeShapes Go.WideShapes Go.ChangeAt Go.RowKit
theorem own : ownKnob Try.prog.godebug = none := by kernel_rfl
theorem laidOut : laidOutB Try.prog = true := by kernel_rfl
set_option maxRecDepth 100000 in
theorem lifted (os : Os) (started : os.Started) (H : Type) (enc : TypeId × Value → H) :
    ReturnsInHanded {} Try.checked os 24 .any (Rows.activityAttemptsSpec.pre6 enc Try.prog Try.f24 Rows.activityAttemptsRow.domain false) (Rows.activityAttemptsSpec.post enc Try.prog Try.f24 false true false false) := by
  refine returnsInHanded_of_change_sized (C := Try.checked) own started (by kernel_rfl) Try.func24
    (ChangeSpec.witness6 (enc := enc) (C := Try.checked) false ⟨#[], #[.agg #[.string ByteArray.empty, .int .i64 0, .int .i64 0, .int .i64 0, .int .i64 0, .int .i64 0, .int .i64 0, .int .i64 0, .int .i64 0, .slice none 0 0], .int .i64 0, .string ByteArray.empty, .int .i64 0], []⟩ 8 (by kernel_rfl) (by kernel_rfl) (by kernel_rfl) (by kernel_rfl)) ?_
  intro W base args ds gs before hval0 hW hcnd hsz0 _
  have hsz : (DataW.weightsEach Try.prog (Try.f24.params.toList ++ Rows.activityAttemptsSpec.plain.varTypes Try.prog) (ds ++ gs)).all (· ≤ reachBytes) = true := hsz0
  have hval : ∀ (j : Nat) t v, Try.f24.params[j]? = some t → args[j]? = some v → Value.okWide Try.prog W .any base t v := hval0
  have hW' := hW
  obtain ⟨p, q, hA0, hV, rfl, hfz, hnd⟩ := hW
  have hA : DataW.TrodAll enc Try.prog W 0 (fun _ => true) true Try.f24.params.toList args.toList ds p := hA0
  rw [Try.params24] at hA hval hsz
  obtain ⟨v0, vs0, d0, ds0, p0, q0, hargs, rfl, rfl, h0, r0⟩ := trodAll_cons hA
  obtain ⟨v1, vs1, d1, ds1, p1, q1, rfl, rfl, rfl, h1, r1⟩ := trodAll_cons r0
  obtain ⟨v2, vs2, d2, ds2, p2, q2, rfl, rfl, rfl, h2, r2⟩ := trodAll_cons r1
  obtain ⟨v3, vs3, d3, ds3, p3, q3, rfl, rfl, rfl, h3, r3⟩ := trodAll_cons r2
  obtain ⟨rfl, rfl, rfl⟩ := trodAll_nil r3
  obtain rfl : args = #[v0, v1, v2, v3] := by cases args; simp_all
  obtain ⟨rfl, rfl⟩ := trodVars_none hV
  have o0 := hval 0 27 v0 rfl rfl
  have y0 : ∀ y ∈ d0.weights Try.prog 27, y ≤ reachBytes := fun y hy => by simpa using List.all_eq_true.1 hsz y (DataW.weights_mem_each (j := 0) (t := 27) rfl rfl y hy)
  have lt0 : ∀ x ∈ p0, x.block < W.heap.size := by obtain ⟨m, hm⟩ := h0; exact DataW.trod_lt m _ _ _ hm
  obtain ⟨z0, e0, g0⟩ := arg_agg Try.underlying27 (fun n => Try.open27 n) o0 h0 y0
  have o1 := hval 1 3 v1 rfl rfl
  have y1 : ∀ y ∈ d1.weights Try.prog 3, y ≤ reachBytes := fun y hy => by simpa using List.all_eq_true.1 hsz y (DataW.weights_mem_each (j := 1) (t := 3) rfl rfl y hy)
  have lt1 : ∀ x ∈ p1, x.block < W.heap.size := by obtain ⟨m, hm⟩ := h1; exact DataW.trod_lt m _ _ _ hm
  obtain ⟨z1, e1, g1⟩ := arg_one (c := fun m => .int .i64 m) (fun n => opens_int Try.underlying3) (cells_int Try.underlying3 o1) h1 y1
  have o2 := hval 2 9 v2 rfl rfl
  have y2 : ∀ y ∈ d2.weights Try.prog 9, y ≤ reachBytes := fun y hy => by simpa using List.all_eq_true.1 hsz y (DataW.weights_mem_each (j := 2) (t := 9) rfl rfl y hy)
  have lt2 : ∀ x ∈ p2, x.block < W.heap.size := by obtain ⟨m, hm⟩ := h2; exact DataW.trod_lt m _ _ _ hm
  obtain ⟨z2, e2, g2⟩ := arg_one (c := fun m => .str m) (fun n => opens_string Try.underlying9) (cells_string Try.underlying9 o2) h2 y2
  have o3 := hval 3 3 v3 rfl rfl
  have y3 : ∀ y ∈ d3.weights Try.prog 3, y ≤ reachBytes := fun y hy => by simpa using List.all_eq_true.1 hsz y (DataW.weights_mem_each (j := 3) (t := 3) rfl rfl y hy)
  have lt3 : ∀ x ∈ p3, x.block < W.heap.size := by obtain ⟨m, hm⟩ := h3; exact DataW.trod_lt m _ _ _ hm
  obtain ⟨z3, e3, g3⟩ := arg_one (c := fun m => .int .i64 m) (fun n => opens_int Try.underlying3) (cells_int Try.underlying3 o3) h3 y3
  clear hA0 hval0 hsz0 hsz
  refine (spec_true (vs := [v0, v1, v2, v3]) (Try.law24 z0 g0 z1 g1 z2 g2 z3 g3) (RepDVs.cons e0 (RepDVs.cons e1 (RepDVs.cons e2 (RepDVs.cons e3 RepDVs.nil))))).mono fun e W' hh => ?_
  obtain ⟨rfl, bel⟩ := hh
  exact ⟨_, rfl, _, _, _, [], _, [], hW', trodAll_mk1 (shut_bool Try.underlying4 _), (trodAll_cons_mk (Below.trod laidOut (by kernel_rfl) (of_decide_eq_true (by kernel_rfl)) h0 bel lt0) (trodAll_cons_mk (Below.trod laidOut (by kernel_rfl) (of_decide_eq_true (by kernel_rfl)) h1 bel lt1) (trodAll_cons_mk (Below.trod laidOut (by kernel_rfl) (of_decide_eq_true (by kernel_rfl)) h2 bel lt2) (trodAll_cons_mk (Below.trod laidOut (by kernel_rfl) (of_decide_eq_true (by kernel_rfl)) h3 bel lt3) trodAll_mk0)))), rfl, bel.frame _, fun h => by cases h⟩
theorem facts : joinedFacts Try.prog 24 Try.f24 Rows.activityAttemptsSpec Rows.activityAttemptsRow = true := by
  unfold joinedFacts
  rw [Try.make, Try.may, Try.fin]
  kernel_rfl
theorem over : Rows.activityAttemptsRow.holds Try.pinned (OpenSpec.ofChange Rows.activityAttemptsSpec) :=
  OpenClaim.holds_of_wide 24 Try.f24 rfl rfl rfl rfl rfl rfl rfl ⟨rfl, rfl, rfl, rfl, rfl⟩ rfl rfl rfl rfl rfl (by kernel_rfl) Try.func24 facts
    (of_decide_eq_true (by kernel_rfl)) (by unfold Func.isWrapper; first | (rw [if_pos (by decide +kernel)]; kernel_rfl) | (rw [if_neg (by decide +kernel)]; exact ⟨rfl, rfl⟩))
    (fun os started H enc _ => lifted os started H enc)
theorem proved : Rows.ActivityAttemptsSaid := over
#print axioms proved
end Go.Proofs.Ytlgnflbekdldnaa.activityAttempts
namespace Go.Proofs.Ytlgnflbekdldnaa
/-- The law holds. -/
theorem activityAttempts_holds : Rows.ActivityAttemptsSaid := activityAttempts.proved
end Go.Proofs.Ytlgnflbekdldnaa
