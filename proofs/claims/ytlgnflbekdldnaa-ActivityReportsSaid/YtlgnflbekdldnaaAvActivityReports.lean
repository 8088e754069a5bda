/- The law ActivityReports returns true for every input. -/
import Derived.Test.YtlgnflbekdldnaaAvA5
import Derived.Test.YtlgnflbekdldnaaAvHead
import Derived.Test.YtlgnflbekdldnaaRows
import Derived.WalkKit
import Derived.ProofKit
import Derived.OpenShut
import Derived.ShutString
import Derived.ChangeOld
import Derived.Below
import Derived.SizedLaws
set_option linter.unusedVariables false
namespace Go.Proofs
open Go.AV
theorem Try.law29 (a : GAct) (ha : a.ok) (e : GEvent) (he : e.ok) (n : Int) (hn : IntKind.i64.wrap n = n) (t : Int) (ht : IntKind.i64.wrap t = t) (d : GVal) (hd : d.ok) :
    AV.Spec Try.prog 29 [.agg a.cs, .agg e.cs, .one (.int .i64 n), .one (.int .i64 t), .agg d.cs] [.one (.c (.bool true))] := Try.k29 a ha e he n t d hd
end Go.Proofs
namespace Go.Proofs.Ytlgnflbekdldnaa.activityReports
open Go Go.Proofs Go.AV Go.ChangeShapes Go.WideShapes Go.ChangeAt Go.RowKit
theorem own : ownKnob Try.prog.godebug = none := by kernel_rfl
theorem laidOut : laidOutB Try.prog = true := by kernel_rfl
set_option maxRecDepth 100000 in
theorem lifted (os : Os) (started : os.Started) (H : Type) (enc : TypeId × Value → H) :
    ReturnsInHanded {} Try.checked os 29 .any (Rows.activityReportsSpec.pre6 enc Try.prog Try.f29 Rows.activityReportsRow.domain false) (Rows.activityReportsSpec.post enc Try.prog Try.f29 false true false false) := by
  refine returnsInHanded_of_change_sized (C := Try.checked) own started (by kernel_rfl) Try.func29
    (ChangeSpec.witness6 (enc := enc) (C := Try.checked) false ⟨#[], #[.agg #[.int .i64 0, .int .i64 0, .string ByteArray.empty, .int .i64 0, .int .i64 0, .string ByteArray.empty, .slice none 0 0, .slice none 0 0, .string ByteArray.empty, .int .i64 0, .int .i64 0, .int .i64 0, .int .i64 0, .int .i64 0, .int .i64 0, .int .i64 0, .int .i64 0, .slice none 0 0, .int .i64 0, .int .i64 0, .int .i64 0, .int .i64 0, .int .i64 0, .int .i64 0, .int .i64 0, .bool false, .int .i64 0, .int .i64 0, .string ByteArray.empty, .slice none 0 0, .slice none 0 0, .string ByteArray.empty], .agg #[.int .i64 0, .int .i64 0, .int .i64 0, .int .i64 0, .int .i64 0, .int .i64 0, .int .i64 0, .string ByteArray.empty, .string ByteArray.empty, .int .i64 0, .int .i64 0, .string ByteArray.empty, .slice none 0 0, .slice none 0 0, .string ByteArray.empty, .int .i64 0, .int .i64 0, .int .i64 0, .int .i64 0, .int .i64 0, .int .i64 0, .int .i64 0, .int .i64 0, .slice none 0 0], .int .i64 0, .int .i64 0, .agg #[.int .i64 0, .int .i64 0, .string ByteArray.empty, .slice none 0 0, .slice none 0 0]], []⟩ 8 (by kernel_rfl) (by kernel_rfl) (by kernel_rfl) (by kernel_rfl)) ?_
  intro W base args ds gs before hval0 hW hcnd hsz0 _
  have hsz : (DataW.weightsEach Try.prog (Try.f29.params.toList ++ Rows.activityReportsSpec.plain.varTypes Try.prog) (ds ++ gs)).all (· ≤ reachBytes) = true := hsz0
  have hval : ∀ (j : Nat) t v, Try.f29.params[j]? = some t → args[j]? = some v → Value.okWide Try.prog W .any base t v := hval0
  have hW' := hW
  obtain ⟨p, q, hA0, hV, rfl, hfz, hnd⟩ := hW
  have hA : DataW.TrodAll enc Try.prog W 0 (fun _ => true) true Try.f29.params.toList args.toList ds p := hA0
  rw [Try.params29] at hA hval hsz
  obtain ⟨v0, vs0, d0, ds0, p0, q0, hargs, rfl, rfl, h0, r0⟩ := trodAll_cons hA
  obtain ⟨v1, vs1, d1, ds1, p1, q1, rfl, rfl, rfl, h1, r1⟩ := trodAll_cons r0
  obtain ⟨v2, vs2, d2, ds2, p2, q2, rfl, rfl, rfl, h2, r2⟩ := trodAll_cons r1
  obtain ⟨v3, vs3, d3, ds3, p3, q3, rfl, rfl, rfl, h3, r3⟩ := trodAll_cons r2
  obtain ⟨v4, vs4, d4, ds4, p4, q4, rfl, rfl, rfl, h4, r4⟩ := trodAll_cons r3
  obtain ⟨rfl, rfl, rfl⟩ := trodAll_nil r4
  obtain rfl : args = #[v0, v1, v2, v3, v4] := by cases args; simp_all
  obtain ⟨rfl, rfl⟩ := trodVars_none hV
  have o0 := hval 0 29 v0 rfl rfl
  have y0 : ∀ y ∈ d0.weights Try.prog 29, y ≤ reachBytes := fun y hy => by simpa using List.all_eq_true.1 hsz y (DataW.weights_mem_each (j := 0) (t := 29) rfl rfl y hy)
  have lt0 : ∀ x ∈ p0, x.block < W.heap.size := by obtain ⟨m, hm⟩ := h0; exact DataW.trod_lt m _ _ _ hm
  obtain ⟨z0, e0, g0⟩ := arg_agg Try.underlying29 (fun n => Try.open29 n) o0 h0 y0
  have o1 := hval 1 139 v1 rfl rfl
  have y1 : ∀ y ∈ d1.weights Try.prog 139, y ≤ reachBytes := fun y hy => by simpa using List.all_eq_true.1 hsz y (DataW.weights_mem_each (j := 1) (t := 139) rfl rfl y hy)
  have lt1 : ∀ x ∈ p1, x.block < W.heap.size := by obtain ⟨m, hm⟩ := h1; exact DataW.trod_lt m _ _ _ hm
  obtain ⟨z1, e1, g1⟩ := arg_agg Try.underlying139 (fun n => Try.open139 n) o1 h1 y1
  have o2 := hval 2 3 v2 rfl rfl
  have y2 : ∀ y ∈ d2.weights Try.prog 3, y ≤ reachBytes := fun y hy => by simpa using List.all_eq_true.1 hsz y (DataW.weights_mem_each (j := 2) (t := 3) rfl rfl y hy)
  have lt2 : ∀ x ∈ p2, x.block < W.heap.size := by obtain ⟨m, hm⟩ := h2; exact DataW.trod_lt m _ _ _ hm
  obtain ⟨z2, e2, g2⟩ := arg_one (c := fun m => .int .i64 m) (fun n => opens_int Try.underlying3) (cells_int Try.underlying3 o2) h2 y2
  have o3 := hval 3 3 v3 rfl rfl
  have y3 : ∀ y ∈ d3.weights Try.prog 3, y ≤ reachBytes := fun y hy => by simpa using List.all_eq_true.1 hsz y (DataW.weights_mem_each (j := 3) (t := 3) rfl rfl y hy)
  have lt3 : ∀ x ∈ p3, x.block < W.heap.size := by obtain ⟨m, hm⟩ := h3; exact DataW.trod_lt m _ _ _ hm
  obtain ⟨z3, e3, g3⟩ := arg_one (c := fun m => .int .i64 m) (fun n => opens_int Try.underlying3) (cells_int Try.underlying3 o3) h3 y3
  have o4 := hval 4 25 v4 rfl rfl
  have y4 : ∀ y ∈ d4.weights Try.prog 25, y ≤ reachBytes := fun y hy => by simpa using List.all_eq_true.1 hsz y (DataW.weights_mem_each (j := 4) (t := 25) rfl rfl y hy)
  have lt4 : ∀ x ∈ p4, x.block < W.heap.size := by obtain ⟨m, hm⟩ := h4; exact DataW.trod_lt m _ _ _ hm
  obtain ⟨z4, e4, g4⟩ := arg_agg Try.underlying25 (fun n => Try.open25 n) o4 h4 y4
  clear hA0 hval0 hsz0 hsz
  refine (spec_true (vs := [v0, v1, v2, v3, v4]) (Try.law29 z0 g0 z1 g1 z2 g2 z3 g3 z4 g4) (RepDVs.cons e0 (RepDVs.cons e1 (RepDVs.cons e2 (RepDVs.cons e3 (RepDVs.cons e4 RepDVs.nil)))))).mono fun e W' hh => ?_
  obtain ⟨rfl, bel⟩ := hh
  exact ⟨_, rfl, _, _, _, [], _, [], hW', trodAll_mk1 (shut_bool Try.underlying4 _), (trodAll_cons_mk (Below.trod laidOut (by kernel_rfl) (of_decide_eq_true (by kernel_rfl)) h0 bel lt0) (trodAll_cons_mk (Below.trod laidOut (by kernel_rfl) (of_decide_eq_true (by kernel_rfl)) h1 bel lt1) (trodAll_cons_mk (Below.trod laidOut (by kernel_rfl) (of_decide_eq_true (by kernel_rfl)) h2 bel lt2) (trodAll_cons_mk (Below.trod laidOut (by kernel_rfl) (of_decide_eq_true (by kernel_rfl)) h3 bel lt3) (trodAll_cons_mk (Below.trod laidOut (by kernel_rfl) (of_decide_eq_true (by kernel_rfl)) h4 bel lt4) trodAll_mk0))))), rfl, bel.frame _, fun h => by cases h⟩
theorem facts : joinedFacts Try.prog 29 Try.f29 Rows.activityReportsSpec Rows.activityReportsRow = true := by
  unfold joinedFacts
  rw [Try.make, Try.may, Try.fin]
  kernel_rfl
theorem over : Rows.activityReportsRow.holds Try.pinned (OpenSpec.ofChange Rows.activityReportsSpec) :=
  OpenClaim.holds_of_wide 29 Try.f29 rfl rfl rfl rfl rfl rfl rfl ⟨rfl, rfl, rfl, rfl, rfl⟩ rfl rfl rfl rfl rfl (by kernel_rfl) Try.func29 facts
    (of_decide_eq_true (by kernel_rfl)) (by unfold Func.isWrapper; first | (rw [if_pos (by decide +kernel)]; kernel_rfl) | (rw [if_neg (by decide +kernel)]; exact ⟨rfl, rfl⟩))
    (fun os started H enc _ => lifted os started H enc)
theorem proved : Rows.ActivityReportsSaid := over
#print axioms proved
end Go.Proofs.Ytlgnflbekdldnaa.activityReports
namespace Go.Proofs.Ytlgnflbekdldnaa
/-- The law holds. -/
theorem activityReports_holds : Rows.ActivityReportsSaid := activityReports.proved
end Go.Proofs.Ytlgnflbekdldnaa
