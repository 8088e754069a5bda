/- The law PendingFinds returns true for every input. -/
import Derived.Test.YtlgnflbekdldnaaGreatDoorAvK42
import Derived.Test.YtlgnflbekdldnaaGreatDoorRows
import Derived.Test.YtlgnflbekdldnaaGreatDoorTie
import Derived.Test.YtlgnflbekdldnaaGreatDoorCards
import Derived.SevenTiedAt
import Derived.LaidMore
import Derived.LaidHandle
import Derived.WalkKit
import Derived.ProofKit
import Derived.OpenShut
import Derived.ShutString
import Derived.ChangeOld
import Derived.Below
import Derived.SizedLaws
set_option linter.unusedVariables false
set_option linter.unusedSimpArgs false
set_option linter.unusedSectionVars false
namespace Go.Proofs
open Go.AV
theorem Tryz.law6 (l : List GEvent) (hl : (∀ z ∈ l, GEvent.ok z) ∧ l.length * 272 ≤ reachBytes) (q : Int) (hq : IntKind.i64.wrap q = q) (id : ByteArray) (hid : id.size ≤ reachBytes) (a : GAct) (ha : a.ok) :
    AV.Spec Tryz.prog 6 [.one (.sl (l.map GEvent.cs)), .one (.int .i64 q), .one (.str id), .agg a.cs] [.one (.c (.bool true))] :=
  SpecG.toSpec (ds := [.one (.sl (l.map GEvent.cs)), .one (.int .i64 q), .one (.str id), .agg a.cs]) (Tryz.m6.ok (l, q, id, a) true (ZO.m6 l q id a hl.1 (by have h := hl.2; have e := reach_eq; omega) ha))
end Go.Proofs
namespace Go.Proofs.YtlgnflbekdldnaaGreatDoor.pendingFinds
open Go Go.Proofs Go.AV Go.ChangeShapes Go.WideShapes Go.ChangeAt Go.RowKit
theorem own : ownKnob Tryz.prog.godebug = none := by kernel_rfl
theorem laidOut : laidOutB Tryz.prog = true := by kernel_rfl
set_option maxRecDepth 100000 in
theorem lifted (os : Os) (started : os.Started) (H : Type) (enc : TypeId × Value → H) :
    ReturnsInHanded {} Tryz.checked os 6 .any (fun w args => (Rows.pendingFindsSpec.pre enc Tryz.prog Tryz.f6 [] false w args ∧ laidMetH Tryz.prog laidAll w) ∧ sizedMet enc Tryz.prog Tryz.f6 (OpenSpec.ofChange Rows.pendingFindsSpec) false w args) (Rows.pendingFindsSpec.post enc Tryz.prog Tryz.f6 false true false false) := by
  refine returnsInHanded_of_change_and (C := Tryz.checked) (X := fun w _ => laidMetH Tryz.prog laidAll w) (fun _ _ _ hh h => h.of_heap hh) own started (by kernel_rfl) Tryz.func6
    (ChangeSpec.witness_shaped (enc := enc) (C := Tryz.checked) (os := os) (X := fun w _ => laidMetH Tryz.prog laidAll w) false (World.doorLaid Tryz.prog 62 os) #[.slice none 0 0, .int .i64 0, .string ByteArray.empty, .agg #[.int .i64 0, .int .i64 0, .string ByteArray.empty, .int .i64 0, .int .i64 0, .string ByteArray.empty, .slice none 0 0, .slice none 0 0, .string ByteArray.empty, .int .i64 0, .int .i64 0, .int .i64 0, .int .i64 0, .int .i64 0, .int .i64 0, .int .i64 0, .int .i64 0, .slice none 0 0, .int .i64 0, .int .i64 0, .int .i64 0, .int .i64 0, .int .i64 0, .int .i64 0, .int .i64 0, .bool false, .int .i64 0, .int .i64 0, .string ByteArray.empty, .slice none 0 0, .slice none 0 0, .string ByteArray.empty]] 8 rfl (World.shaped_of_RefB (by kernel_rfl) (by kernel_rfl)) (by kernel_rfl) (by kernel_rfl) (by kernel_rfl) (door_met os _)) ?_
  intro W base args ds gs before hval0 hW hcnd hsz0 hL _
  have hsz : (DataW.weightsEach Tryz.prog (Tryz.f6.params.toList ++ Rows.pendingFindsSpec.plain.varTypes Tryz.prog) (ds ++ gs)).all (· ≤ reachBytes) = true := hsz0
  have hval : ∀ (j : Nat) t v, Tryz.f6.params[j]? = some t → args[j]? = some v → Value.okWide Tryz.prog W .any base t v := hval0
  have hW' := hW
  obtain ⟨p, q, hA0, hV, rfl, hfz, hnd⟩ := hW
  have hA : DataW.TrodAll enc Tryz.prog W 0 (fun _ => true) true Tryz.f6.params.toList args.toList ds p := hA0
  rw [Tryz.params6] at hA hval hsz
  obtain ⟨v0, vs0, d0, ds0, p0, q0, hargs, rfl, rfl, h0, r0⟩ := trodAll_cons hA
  obtain ⟨v1, vs1, d1, ds1, p1, q1, rfl, rfl, rfl, h1, r1⟩ := trodAll_cons r0
  obtain ⟨v2, vs2, d2, ds2, p2, q2, rfl, rfl, rfl, h2, r2⟩ := trodAll_cons r1
  obtain ⟨v3, vs3, d3, ds3, p3, q3, rfl, rfl, rfl, h3, r3⟩ := trodAll_cons r2
  obtain ⟨rfl, rfl, rfl⟩ := trodAll_nil r3
  obtain rfl : args = #[v0, v1, v2, v3] := by cases args; simp_all
  obtain ⟨rfl, rfl⟩ := trodVars_none hV
  have o0 := hval 0 22 v0 rfl rfl
  have y0 : ∀ y ∈ d0.weights Tryz.prog 22, y ≤ reachBytes := fun y hy => by simpa using List.all_eq_true.1 hsz y (DataW.weights_mem_each (j := 0) (t := 22) rfl rfl y hy)
  have lt0 : ∀ x ∈ p0, x.block < W.heap.size := by obtain ⟨m, hm⟩ := h0; exact DataW.trod_lt m _ _ _ hm
  obtain ⟨z0, e0, g0⟩ := arg_one (c := fun m => .sl (List.map GEvent.cs m)) (fun n => Tryz.opensl22 n) (cells_slice Tryz.underlying22 o0) h0 y0
  have o1 := hval 1 3 v1 rfl rfl
  have y1 : ∀ y ∈ d1.weights Tryz.prog 3, y ≤ reachBytes := fun y hy => by simpa using List.all_eq_true.1 hsz y (DataW.weights_mem_each (j := 1) (t := 3) rfl rfl y hy)
  have lt1 : ∀ x ∈ p1, x.block < W.heap.size := by obtain ⟨m, hm⟩ := h1; exact DataW.trod_lt m _ _ _ hm
  obtain ⟨z1, e1, g1⟩ := arg_one (c := fun m => .int .i64 m) (fun n => opens_int Tryz.underlying3) (cells_int Tryz.underlying3 o1) h1 y1
  have o2 := hval 2 9 v2 rfl rfl
  have y2 : ∀ y ∈ d2.weights Tryz.prog 9, y ≤ reachBytes := fun y hy => by simpa using List.all_eq_true.1 hsz y (DataW.weights_mem_each (j := 2) (t := 9) rfl rfl y hy)
  have lt2 : ∀ x ∈ p2, x.block < W.heap.size := by obtain ⟨m, hm⟩ := h2; exact DataW.trod_lt m _ _ _ hm
  obtain ⟨z2, e2, g2⟩ := arg_one (c := fun m => .str m) (fun n => opens_string Tryz.underlying9) (cells_string Tryz.underlying9 o2) h2 y2
  have o3 := hval 3 47 v3 rfl rfl
  have y3 : ∀ y ∈ d3.weights Tryz.prog 47, y ≤ reachBytes := fun y hy => by simpa using List.all_eq_true.1 hsz y (DataW.weights_mem_each (j := 3) (t := 47) rfl rfl y hy)
  have lt3 : ∀ x ∈ p3, x.block < W.heap.size := by obtain ⟨m, hm⟩ := h3; exact DataW.trod_lt m _ _ _ hm
  obtain ⟨z3, e3, g3⟩ := arg_agg Tryz.underlying47 (fun n => Tryz.open47 n) o3 h3 y3
  clear hA0 hval0 hsz0 hsz
  refine (spec_true (vs := [v0, v1, v2, v3]) (Tryz.law6 z0 g0 z1 g1 z2 g2 z3 g3) (RepDVs.cons e0 (RepDVs.cons e1 (RepDVs.cons e2 (RepDVs.cons e3 RepDVs.nil)))) (laid_inv hL)).mono fun e W' hh => ?_
  obtain ⟨rfl, bel⟩ := hh
  exact ⟨_, rfl, _, _, _, [], _, [], hW', trodAll_mk1 (shut_bool Tryz.underlying4 _), (trodAll_cons_mk (Below.trod laidOut (by kernel_rfl) (of_decide_eq_true (by kernel_rfl)) h0 bel lt0) (trodAll_cons_mk (Below.trod laidOut (by kernel_rfl) (of_decide_eq_true (by kernel_rfl)) h1 bel lt1) (trodAll_cons_mk (Below.trod laidOut (by kernel_rfl) (of_decide_eq_true (by kernel_rfl)) h2 bel lt2) (trodAll_cons_mk (Below.trod laidOut (by kernel_rfl) (of_decide_eq_true (by kernel_rfl)) h3 bel lt3) trodAll_mk0)))), rfl, bel.frame _, fun h => by cases h⟩
theorem facts : joinedFacts Tryz.prog 6 Tryz.f6 Rows.pendingFindsSpec Rows.pendingFindsRow = true := by
  unfold joinedFacts
  rw [Tryz.make, Tryz.may, Tryz.fin]
  kernel_rfl
theorem over : Rows.pendingFindsRow.holds Tryz.pinned (OpenSpec.ofChange Rows.pendingFindsSpec) :=
  OpenClaim.holds_of_wide 6 Tryz.f6 rfl rfl rfl rfl rfl rfl rfl ⟨rfl, rfl, rfl, rfl, rfl⟩ rfl rfl rfl rfl rfl (by kernel_rfl) Tryz.func6 facts
    (of_decide_eq_true (by kernel_rfl)) (by unfold Func.isWrapper; first | (rw [if_pos (by decide +kernel)]; kernel_rfl) | (rw [if_neg (by decide +kernel)]; exact ⟨rfl, rfl⟩))
    (fun os started H enc _ => lifted os started H enc)
theorem going : false = Rows.pendingFindsRow.goesBy Tryz.pinned.checked.prog := by kernel_rfl
theorem worded : Rows.pendingFindsRow.wfByText (OpenSpec.ofChange Rows.pendingFindsSpec) = true := by kernel_rfl
theorem named : Tryz.pinned.checked.prog.funcNamed "workflow/workflowlaw25.PendingFinds" = some 6 := by kernel_rfl
theorem standless : ([22, 3, 9, 47].all fun u => !Tryz.pinned.checked.prog.wantsStandIn u) = true := by kernel_rfl
theorem proved : Rows.PendingFindsCardSaid :=
  Claim7.holds_tied_plain_at .later [] [.data, .data, .data, .sentinel, .sentinel] true (true, "869676bc7128f833b024f6b26f1dfe22299415916c71b51e393066324a17f590") true
    over (fun _ h => by cases h) worded (fun _ h => by cases h) pendingFinds_row_tie rfl ⟨rfl, rfl⟩ mains rfl
    (fun f fn hf hfn => by
      obtain rfl : f = 6 := Option.some.inj (named.symm.trans hf) |>.symm
      obtain rfl : fn = Tryz.f6 := (Option.some.inj (Tryz.func6.symm.trans hfn)).symm
      exact ⟨looking, fun j t ht => by
        rw [Tryz.params6] at ht
        have hm : t ∈ [22, 3, 9, 47] := by simpa using Array.mem_of_getElem? ht
        exact (show Tryz.pinned.checked.prog.wantsStandIn t = false by simpa using List.all_eq_true.1 standless t hm)⟩)
    going
end Go.Proofs.YtlgnflbekdldnaaGreatDoor.pendingFinds
namespace Go.Proofs.YtlgnflbekdldnaaGreatDoor
/-- The law holds. -/
theorem pendingFindsCard_holds : Rows.PendingFindsCardSaid := pendingFinds.proved
end Go.Proofs.YtlgnflbekdldnaaGreatDoor
