import Derived.Test.YtlgnflbekdldnaaAvTL
/- Printed by pr.py. -/
set_option linter.unusedVariables false
set_option maxRecDepth 100000
set_option maxHeartbeats 2000000
namespace Go.Proofs
open Go Go.AV
/-! ### 100 workflow/activity.Cancel -/
noncomputable def Try.b100 : Code := Try.f100.body.getD .skip
noncomputable def Try.x100 : Cx Empty GAct where
  nt := 7
  rvs := [.cell 2 29]
  mh := []
  res := fun y => [.agg (((((((GAct.cs y).map R.c).set 6 (.own 25 5 (E.GVal.L y.Data.Items))).set 7 (.own 9 1 (E.str.L y.Data.Keys))).set 17 (.own 9 1 (E.str.L y.Opts.Fatal))).set 29 (.own 25 5 (E.GVal.L y.Details.Items))).set 30 (.own 9 1 (E.str.L y.Details.Keys)))]
  outs := fun y => []
  path := fun j => nomatch j
  sig := fun j => nomatch j
  snap := fun j => nomatch j
noncomputable def Try.a100 (a_0 : GAct) : Cert Try.prog Empty GAct :=
    .call Try.m161 a_0 fun r1 =>
    .ret (GAct.mk r1.Seq r1.Event r1.Name r1.Data r1.Opts r1.State r1.Attempt r1.Scheduled r1.Due r1.Started r1.LastBeat r1.Token true r1.Details r1.Failure)
noncomputable def Try.c100 : Empty → Cert Try.prog Empty GAct := fun j => nomatch j
theorem Try.h100 (a_0 : GAct) : execC Try.prog Try.x100 Try.b100 [] (topC Try.prog Try.x100) (Try.a100 a_0) (ES.init [.val (.agg ((GAct.cs a_0).map R.c))]) :=
  of_triv (rs := Try.x100.rs) (snap := Try.x100.snap) (c := Try.a100 a_0) (by kernel_rfl)
theorem Try.g100 : ∀ j, chkAt Try.prog Try.x100 Try.b100 (Try.x100.path j) (Try.c100 j) (Try.x100.snap j).es := fun j => nomatch j
noncomputable def Try.m100 : Mir Try.prog 100 GAct GAct where
  fs := [.agg (List.replicate 32 none)]
  ga := fun x => [.val (.agg ((GAct.cs x).map R.c))]
  caps := fun x => []
  res := Try.x100.res
  outs := Try.x100.outs
  R := fun x y => Runs (Try.a100 x) (KOf (fun j => Ev (Try.c100) j y) y)
  ok := fun x y h => sys_ok (cx := Try.x100) (body := Try.b100) Try.follow Try.func100 (by kernel_rfl) (by kernel_rfl) (by kernel_rfl) (by kernel_rfl) _ (Nat.le_of_ble_eq_true rfl) (by kernel_rfl) _ (Try.h100 x) (Try.g100) y h
  flat := false
  hflat := fun h => nomatch h
/-! ### 24 workflow/workflowlaw36.ActivityAttempts -/
inductive Try.J24 where
  | s0 (failure_t2 : ByteArray) (seed_t3 : Int) (o_t4 : GPolicy) (a_t9 : GAct) (n_t10 : Int)
  | s1 (failure_t2 : ByteArray) (seed_t3 : Int) (o_t4 : GPolicy) (a_t9 : GAct) (n_t10 : Int) (b_t11 : GAct)
  | s2 (o_t4 : GPolicy) (n_t10 : Int)
noncomputable def Try.b24 : Code := Try.f24.body.getD .skip
noncomputable def Try.x24 : Cx Try.J24 Bool where
  nt := 95
  rvs := [.tmp 8]
  mh := []
  res := fun y => [.one (.c (.bool y))]
  outs := fun y => []
  path := fun
    | .s0 _ _ _ _ _ => [0, 0, 1, 1, 1, 1]
    | .s1 _ _ _ _ _ _ => [1, 1, 1, 0, 1, 0, 0, 0, 1, 1, 1, 1]
    | .s2 _ _ => [1, 1, 1, 1, 1]
  sig := fun
    | .s0 _ _ _ _ _ => [2, 3, 4, 9, 10]
    | .s1 _ _ _ _ _ _ => [2, 3, 4, 9, 10, 11]
    | .s2 _ _ => [4, 10]
  snap := fun
    | .s0 failure_t2 seed_t3 o_t4 a_t9 n_t10 => ⟨[(2, .one (.c (.str failure_t2))), (3, .one (.c (.int .i64 seed_t3))), (4, .one (.ptr 0 1 0)), (9, .one (.ptr 1 1 0)), (10, .one (.c (.int .i64 n_t10)))], [((0, 1), .box ((GPolicy.cs o_t4).map A.c)), ((1, 1), .box ((GAct.cs a_t9).map A.c))]⟩
    | .s1 failure_t2 seed_t3 o_t4 a_t9 n_t10 b_t11 => ⟨[(2, .one (.c (.str failure_t2))), (3, .one (.c (.int .i64 seed_t3))), (4, .one (.ptr 0 1 0)), (9, .one (.ptr 1 1 0)), (10, .one (.c (.int .i64 n_t10))), (11, .one (.ptr 2 1 0))], [((0, 1), .box ((GPolicy.cs o_t4).map A.c)), ((1, 1), .box ((GAct.cs a_t9).map A.c)), ((2, 1), .box ((GAct.cs b_t11).map A.c))]⟩
    | .s2 o_t4 n_t10 => ⟨[(4, .one (.ptr 0 1 0)), (10, .one (.c (.int .i64 n_t10)))], [((0, 1), .box ((GPolicy.cs o_t4).map A.c))]⟩
noncomputable def Try.a24 (o_0 : GPolicy) (start_1 : Int) (failure_2 : ByteArray) (seed_3 : Int) : Cert Try.prog Try.J24 Bool :=
    .call Try.m98 (GEvent.mk 0 0 0 0 0 0 0 (⟨#[]⟩ : ByteArray) (⟨#[]⟩ : ByteArray) (GVal.mk 0 0 (⟨#[]⟩ : ByteArray) [] []) o_0) fun r1 =>
    .ite 21 (!r1)
    (.call Try.m89 () fun r2 =>
    .ret r2)
    (.ite 26 (decide (6000 < (failure_2.size : Int)))
    (.call Try.m89 () fun r3 =>
    .ret r3)
    (.ite 30 (decide (start_1 < 0))
    (.call Try.m89 () fun r4 =>
    .ret r4)
    (.ite 33 (decide (1000000 < start_1))
    (.call Try.m89 () fun r5 =>
    .ret r5)
    (.call Try.m99 (GEvent.mk 5 7 start_1 1 0 0 0 (⟨#[97]⟩ : ByteArray) (⟨#[]⟩ : ByteArray) (GVal.mk 0 0 (⟨#[]⟩ : ByteArray) [] []) o_0) fun r6 =>
    .frz 38006 1 <|
    .frz 38007 1 <|
    .frz 38017 1 <|
    .frz 38029 1 <|
    .frz 38030 1 <|
    .jump (.s0 failure_2 seed_3 o_0 r6 0) [(4000, 1), (9000, 1)]))))
noncomputable def Try.c24 : Try.J24 → Cert Try.prog Try.J24 Bool
  | .s0 failure_t2 seed_t3 o_t4 a_t9 n_t10 =>
    .ite 40 (decide (n_t10 ≤ 1000))
    (.call Try.m96 (a_t9, a_t9.Due, (IntKind.i64.wrap (n_t10 + 1))) fun r7 =>
    .ite 51 (r7.2 != 0)
    (.ret false)
    (.frz 47006 2 <|
    .frz 47007 2 <|
    .frz 47017 2 <|
    .frz 47029 2 <|
    .frz 47030 2 <|
    .jump (.s1 failure_t2 seed_t3 o_t4 a_t9 (IntKind.i64.wrap (n_t10 + 1)) r7.1) [(0, 1), (1, 1), (11000, 2)]))
    (.jump (.s2 o_t4 n_t10) [(0, 1)])
  | .s1 failure_t2 seed_t3 o_t4 a_t9 n_t10 b_t11 =>
    .call (Try.m100).weak b_t11 fun r8 =>
    .call Try.m90 (r8, b_t11.Started, failure_t2, seed_t3) fun r9 =>
    .ite 65 r9.2.Retry
    (.ret false)
    (.call Try.m90 (b_t11, b_t11.Started, failure_t2, seed_t3) fun r10 =>
    .ite 77 (!r10.2.Retry)
    (.jump (.s2 o_t4 n_t10) [(0, 1)])
    (.jump (.s0 failure_t2 seed_t3 o_t4 r10.1 n_t10) [(0, 1), (1, 1)]))
  | .s2 o_t4 n_t10 =>
    .ite 81 (decide (n_t10 ≤ 1000))
    (.ite 85 (decide (o_t4.Attempts ≤ 0))
    (.call Try.m89 () fun r11 =>
    .ret r11)
    (.ite 92 (decide (n_t10 ≤ o_t4.Attempts))
    (.call Try.m89 () fun r12 =>
    .ret r12)
    (.ret false)))
    (.ret false)
theorem Try.h24 (o_0 : GPolicy) (start_1 : Int) (failure_2 : ByteArray) (seed_3 : Int) : execC Try.prog Try.x24 Try.b24 [] (topC Try.prog Try.x24) (Try.a24 o_0 start_1 failure_2 seed_3) (ES.init [.val (.agg ((GPolicy.cs o_0).map R.c)), .val (.one (.c (.int .i64 start_1))), .val (.one (.c (.str failure_2))), .val (.one (.c (.int .i64 seed_3)))]) :=
  of_triv (rs := Try.x24.rs) (snap := Try.x24.snap) (c := Try.a24 o_0 start_1 failure_2 seed_3) (by kernel_rfl)
theorem Try.g24 : ∀ j, chkAt Try.prog Try.x24 Try.b24 (Try.x24.path j) (Try.c24 j) (Try.x24.snap j).es
  | .s0 failure_t2 seed_t3 o_t4 a_t9 n_t10 => of_triv (rs := Try.x24.rs) (snap := Try.x24.snap) (c := Try.c24 (.s0 failure_t2 seed_t3 o_t4 a_t9 n_t10)) (by kernel_rfl)
  | .s1 failure_t2 seed_t3 o_t4 a_t9 n_t10 b_t11 => of_triv (rs := Try.x24.rs) (snap := Try.x24.snap) (c := Try.c24 (.s1 failure_t2 seed_t3 o_t4 a_t9 n_t10 b_t11)) (by kernel_rfl)
  | .s2 o_t4 n_t10 => of_triv (rs := Try.x24.rs) (snap := Try.x24.snap) (c := Try.c24 (.s2 o_t4 n_t10)) (by kernel_rfl)
noncomputable def Try.m24 : Mir Try.prog 24 (GPolicy × Int × ByteArray × Int) Bool where
  fs := [.agg (List.replicate 10 none), .one none, .one none, .one none]
  ga := fun x => [.val (.agg ((GPolicy.cs x.1).map R.c)), .val (.one (.c (.int .i64 x.2.1))), .val (.one (.c (.str x.2.2.1))), .val (.one (.c (.int .i64 x.2.2.2)))]
  caps := fun x => []
  res := Try.x24.res
  outs := Try.x24.outs
  R := fun x y => Runs (Try.a24 x.1 x.2.1 x.2.2.1 x.2.2.2) (KOf (fun j => Ev (Try.c24) j y) y)
  ok := fun x y h => sys_ok (cx := Try.x24) (body := Try.b24) Try.follow Try.func24 (by kernel_rfl) (by kernel_rfl) (by kernel_rfl) (by kernel_rfl) _ (Nat.le_of_ble_eq_true rfl) (by kernel_rfl) _ (Try.h24 x.1 x.2.1 x.2.2.1 x.2.2.2) (Try.g24) y h
  flat := true
  hflat := fun _ _ => flatE rfl
end Go.Proofs
/- Printed by pr.py. -/
set_option linter.unusedVariables false
set_option maxRecDepth 100000
set_option maxHeartbeats 2000000
namespace Go.Proofs
open Go Go.AV
/-! ### 116 workflow/workflowref36.Start -/
noncomputable def Try.b116 : Code := Try.f116.body.getD .skip
noncomputable def Try.x116 : Cx Empty (GAct × Int) where
  nt := 33
  rvs := [.cell 6 29, .tmp 7]
  mh := []
  res := fun y => [.agg ((GAct.cs y.1).map R.c), .one (.c (.int .i64 y.2))]
  outs := fun y => []
  path := fun j => nomatch j
  sig := fun j => nomatch j
  snap := fun j => nomatch j
noncomputable def Try.a116 (a_0 : GAct) (now_1 : Int) (token_2 : Int) : Cert Try.prog Empty (GAct × Int) :=
    .call Try.m184 now_1 fun r1 =>
    .ite 11 (!r1)
    (.ret ((GAct.mk 0 0 (⟨#[]⟩ : ByteArray) (GVal.mk 0 0 (⟨#[]⟩ : ByteArray) [] []) (GPolicy.mk (⟨#[]⟩ : ByteArray) 0 0 0 0 0 0 0 0 []) 0 0 0 0 0 0 0 false (GVal.mk 0 0 (⟨#[]⟩ : ByteArray) [] []) (⟨#[]⟩ : ByteArray)), 2))
    (.ite 14 (decide (token_2 < 1))
    (.ret ((GAct.mk 0 0 (⟨#[]⟩ : ByteArray) (GVal.mk 0 0 (⟨#[]⟩ : ByteArray) [] []) (GPolicy.mk (⟨#[]⟩ : ByteArray) 0 0 0 0 0 0 0 0 []) 0 0 0 0 0 0 0 false (GVal.mk 0 0 (⟨#[]⟩ : ByteArray) [] []) (⟨#[]⟩ : ByteArray)), 2))
    (.ite 19 (a_0.State != 1)
    (.ret ((GAct.mk 0 0 (⟨#[]⟩ : ByteArray) (GVal.mk 0 0 (⟨#[]⟩ : ByteArray) [] []) (GPolicy.mk (⟨#[]⟩ : ByteArray) 0 0 0 0 0 0 0 0 []) 0 0 0 0 0 0 0 false (GVal.mk 0 0 (⟨#[]⟩ : ByteArray) [] []) (⟨#[]⟩ : ByteArray)), 16))
    (.ite 24 (decide (now_1 < a_0.Due))
    (.ret ((GAct.mk 0 0 (⟨#[]⟩ : ByteArray) (GVal.mk 0 0 (⟨#[]⟩ : ByteArray) [] []) (GPolicy.mk (⟨#[]⟩ : ByteArray) 0 0 0 0 0 0 0 0 []) 0 0 0 0 0 0 0 false (GVal.mk 0 0 (⟨#[]⟩ : ByteArray) [] []) (⟨#[]⟩ : ByteArray)), 16))
    (.ret ((GAct.mk a_0.Seq a_0.Event a_0.Name a_0.Data a_0.Opts 2 a_0.Attempt a_0.Scheduled a_0.Due now_1 0 token_2 a_0.Cancel a_0.Details a_0.Failure), 0)))))
noncomputable def Try.c116 : Empty → Cert Try.prog Empty (GAct × Int) := fun j => nomatch j
theorem Try.h116 (a_0 : GAct) (now_1 : Int) (token_2 : Int) : execC Try.prog Try.x116 Try.b116 [] (topC Try.prog Try.x116) (Try.a116 a_0 now_1 token_2) (ES.init [.val (.agg ((GAct.cs a_0).map R.c)), .val (.one (.c (.int .i64 now_1))), .val (.one (.c (.int .i64 token_2)))]) :=
  of_triv (rs := Try.x116.rs) (snap := Try.x116.snap) (c := Try.a116 a_0 now_1 token_2) (by kernel_rfl)
theorem Try.g116 : ∀ j, chkAt Try.prog Try.x116 Try.b116 (Try.x116.path j) (Try.c116 j) (Try.x116.snap j).es := fun j => nomatch j
noncomputable def Try.m116 : Mir Try.prog 116 (GAct × Int × Int) (GAct × Int) where
  fs := [.agg (List.replicate 32 none), .one none, .one none]
  ga := fun x => [.val (.agg ((GAct.cs x.1).map R.c)), .val (.one (.c (.int .i64 x.2.1))), .val (.one (.c (.int .i64 x.2.2)))]
  caps := fun x => []
  res := Try.x116.res
  outs := Try.x116.outs
  R := fun x y => Runs (Try.a116 x.1 x.2.1 x.2.2) (KOf (fun j => Ev (Try.c116) j y) y)
  ok := fun x y h => sys_ok (cx := Try.x116) (body := Try.b116) Try.follow Try.func116 (by kernel_rfl) (by kernel_rfl) (by kernel_rfl) (by kernel_rfl) _ (Nat.le_of_ble_eq_true rfl) (by kernel_rfl) _ (Try.h116 x.1 x.2.1 x.2.2) (Try.g116) y h
  flat := false
  hflat := fun h => nomatch h
/-! ### 117 workflow/activity.Beat -/
noncomputable def Try.b117 : Code := Try.f117.body.getD .skip
noncomputable def Try.x117 : Cx Empty (GAct × Bool × Int) where
  nt := 49
  rvs := [.cell 8 29, .tmp 9, .tmp 10]
  mh := []
  res := fun y => [.agg (((((((GAct.cs y.1).map R.c).set 6 (.own 25 5 (E.GVal.L y.1.Data.Items))).set 7 (.own 9 1 (E.str.L y.1.Data.Keys))).set 17 (.own 9 1 (E.str.L y.1.Opts.Fatal))).set 29 (.own 25 5 (E.GVal.L y.1.Details.Items))).set 30 (.own 9 1 (E.str.L y.1.Details.Keys))), .one (.c (.bool y.2.1)), .one (.c (.int .i64 y.2.2))]
  outs := fun y => []
  path := fun j => nomatch j
  sig := fun j => nomatch j
  snap := fun j => nomatch j
noncomputable def Try.a117 (a_0 : GAct) (now_1 : Int) (token_2 : Int) (details_3 : GVal) : Cert Try.prog Empty (GAct × Bool × Int) :=
    .call Try.m97 (a_0, token_2) fun r1 =>
    .ite 16 (r1 != 0)
    (.ret ((GAct.mk 0 0 (⟨#[]⟩ : ByteArray) (GVal.mk 0 0 (⟨#[]⟩ : ByteArray) [] []) (GPolicy.mk (⟨#[]⟩ : ByteArray) 0 0 0 0 0 0 0 0 []) 0 0 0 0 0 0 0 false (GVal.mk 0 0 (⟨#[]⟩ : ByteArray) [] []) (⟨#[]⟩ : ByteArray)), false, r1))
    (.call Try.m165 now_1 fun r2 =>
    .ite 22 (!r2)
    (.ret ((GAct.mk 0 0 (⟨#[]⟩ : ByteArray) (GVal.mk 0 0 (⟨#[]⟩ : ByteArray) [] []) (GPolicy.mk (⟨#[]⟩ : ByteArray) 0 0 0 0 0 0 0 0 []) 0 0 0 0 0 0 0 false (GVal.mk 0 0 (⟨#[]⟩ : ByteArray) [] []) (⟨#[]⟩ : ByteArray)), false, 2))
    (.ite 28 (decide (now_1 < a_0.Started))
    (.ret ((GAct.mk 0 0 (⟨#[]⟩ : ByteArray) (GVal.mk 0 0 (⟨#[]⟩ : ByteArray) [] []) (GPolicy.mk (⟨#[]⟩ : ByteArray) 0 0 0 0 0 0 0 0 []) 0 0 0 0 0 0 0 false (GVal.mk 0 0 (⟨#[]⟩ : ByteArray) [] []) (⟨#[]⟩ : ByteArray)), false, 2))
    (.ite 33 (decide (now_1 < a_0.LastBeat))
    (.ret ((GAct.mk 0 0 (⟨#[]⟩ : ByteArray) (GVal.mk 0 0 (⟨#[]⟩ : ByteArray) [] []) (GPolicy.mk (⟨#[]⟩ : ByteArray) 0 0 0 0 0 0 0 0 []) 0 0 0 0 0 0 0 false (GVal.mk 0 0 (⟨#[]⟩ : ByteArray) [] []) (⟨#[]⟩ : ByteArray)), false, 2))
    (.call (Try.m140 Try.m217.R Try.m217.ok Try.m218.R Try.m218.ok Try.m219.R Try.m219.ok Try.m196.R Try.m196.ok) details_3 fun r3 =>
    .ite 37 (!r3)
    (.ret ((GAct.mk 0 0 (⟨#[]⟩ : ByteArray) (GVal.mk 0 0 (⟨#[]⟩ : ByteArray) [] []) (GPolicy.mk (⟨#[]⟩ : ByteArray) 0 0 0 0 0 0 0 0 []) 0 0 0 0 0 0 0 false (GVal.mk 0 0 (⟨#[]⟩ : ByteArray) [] []) (⟨#[]⟩ : ByteArray)), false, 12))
    (.call Try.m161 a_0 fun r4 =>
    .call Try.m153 details_3 fun r5 =>
    .ret ((GAct.mk r4.Seq r4.Event r4.Name r4.Data r4.Opts r4.State r4.Attempt r4.Scheduled r4.Due r4.Started now_1 r4.Token r4.Cancel r5 r4.Failure), r4.Cancel, 0))))))
noncomputable def Try.c117 : Empty → Cert Try.prog Empty (GAct × Bool × Int) := fun j => nomatch j
theorem Try.h117 (a_0 : GAct) (now_1 : Int) (token_2 : Int) (details_3 : GVal) : execC Try.prog Try.x117 Try.b117 [] (topC Try.prog Try.x117) (Try.a117 a_0 now_1 token_2 details_3) (ES.init [.val (.agg ((GAct.cs a_0).map R.c)), .val (.one (.c (.int .i64 now_1))), .val (.one (.c (.int .i64 token_2))), .val (.agg ((GVal.cs details_3).map R.c))]) :=
  of_triv (rs := Try.x117.rs) (snap := Try.x117.snap) (c := Try.a117 a_0 now_1 token_2 details_3) (by kernel_rfl)
theorem Try.g117 : ∀ j, chkAt Try.prog Try.x117 Try.b117 (Try.x117.path j) (Try.c117 j) (Try.x117.snap j).es := fun j => nomatch j
noncomputable def Try.m117 : Mir Try.prog 117 (GAct × Int × Int × GVal) (GAct × Bool × Int) where
  fs := [.agg (List.replicate 32 none), .one none, .one none, .agg (List.replicate 5 none)]
  ga := fun x => [.val (.agg ((GAct.cs x.1).map R.c)), .val (.one (.c (.int .i64 x.2.1))), .val (.one (.c (.int .i64 x.2.2.1))), .val (.agg ((GVal.cs x.2.2.2).map R.c))]
  caps := fun x => []
  res := Try.x117.res
  outs := Try.x117.outs
  R := fun x y => Runs (Try.a117 x.1 x.2.1 x.2.2.1 x.2.2.2) (KOf (fun j => Ev (Try.c117) j y) y)
  ok := fun x y h => sys_ok (cx := Try.x117) (body := Try.b117) Try.follow Try.func117 (by kernel_rfl) (by kernel_rfl) (by kernel_rfl) (by kernel_rfl) _ (Nat.le_of_ble_eq_true rfl) (by kernel_rfl) _ (Try.h117 x.1 x.2.1 x.2.2.1 x.2.2.2) (Try.g117) y h
  flat := false
  hflat := fun h => nomatch h
/-! ### 120 workflow/workflowref36.Check -/
noncomputable def Try.b120 : Code := Try.f120.body.getD .skip
noncomputable def Try.x120 : Cx Empty Int where
  nt := 14
  rvs := [.tmp 4]
  mh := []
  res := fun y => [.one (.c (.int .i64 y))]
  outs := fun y => []
  path := fun j => nomatch j
  sig := fun j => nomatch j
  snap := fun j => nomatch j
noncomputable def Try.a120 (a_0 : GAct) (token_1 : Int) : Cert Try.prog Empty Int :=
    .ite 8 (a_0.State != 2)
    (.ret 24)
    (.ite 13 (a_0.Token != token_1)
    (.ret 24)
    (.ret 0))
noncomputable def Try.c120 : Empty → Cert Try.prog Empty Int := fun j => nomatch j
theorem Try.h120 (a_0 : GAct) (token_1 : Int) : execC Try.prog Try.x120 Try.b120 [] (topC Try.prog Try.x120) (Try.a120 a_0 token_1) (ES.init [.val (.agg ((GAct.cs a_0).map R.c)), .val (.one (.c (.int .i64 token_1)))]) :=
  of_triv (rs := Try.x120.rs) (snap := Try.x120.snap) (c := Try.a120 a_0 token_1) (by kernel_rfl)
theorem Try.g120 : ∀ j, chkAt Try.prog Try.x120 Try.b120 (Try.x120.path j) (Try.c120 j) (Try.x120.snap j).es := fun j => nomatch j
noncomputable def Try.m120 : Mir Try.prog 120 (GAct × Int) Int where
  fs := [.agg (List.replicate 32 none), .one none]
  ga := fun x => [.val (.agg ((GAct.cs x.1).map R.c)), .val (.one (.c (.int .i64 x.2)))]
  caps := fun x => []
  res := Try.x120.res
  outs := Try.x120.outs
  R := fun x y => Runs (Try.a120 x.1 x.2) (KOf (fun j => Ev (Try.c120) j y) y)
  ok := fun x y h => sys_ok (cx := Try.x120) (body := Try.b120) Try.follow Try.func120 (by kernel_rfl) (by kernel_rfl) (by kernel_rfl) (by kernel_rfl) _ (Nat.le_of_ble_eq_true rfl) (by kernel_rfl) _ (Try.h120 x.1 x.2) (Try.g120) y h
  flat := true
  hflat := fun _ _ => flatE rfl
/-! ### 118 workflow/workflowref36.Beat -/
noncomputable def Try.b118 : Code := Try.f118.body.getD .skip
noncomputable def Try.x118 : Cx Empty (GAct × Bool × Int) where
  nt := 46
  rvs := [.cell 8 29, .tmp 9, .tmp 10]
  mh := []
  res := fun y => [.agg ((GAct.cs y.1).map R.c), .one (.c (.bool y.2.1)), .one (.c (.int .i64 y.2.2))]
  outs := fun y => []
  path := fun j => nomatch j
  sig := fun j => nomatch j
  snap := fun j => nomatch j
noncomputable def Try.a118 (a_0 : GAct) (now_1 : Int) (token_2 : Int) (details_3 : GVal) : Cert Try.prog Empty (GAct × Bool × Int) :=
    .call Try.m120 (a_0, token_2) fun r1 =>
    .ite 16 (r1 != 0)
    (.ret ((GAct.mk 0 0 (⟨#[]⟩ : ByteArray) (GVal.mk 0 0 (⟨#[]⟩ : ByteArray) [] []) (GPolicy.mk (⟨#[]⟩ : ByteArray) 0 0 0 0 0 0 0 0 []) 0 0 0 0 0 0 0 false (GVal.mk 0 0 (⟨#[]⟩ : ByteArray) [] []) (⟨#[]⟩ : ByteArray)), false, r1))
    (.call Try.m184 now_1 fun r2 =>
    .ite 22 (!r2)
    (.ret ((GAct.mk 0 0 (⟨#[]⟩ : ByteArray) (GVal.mk 0 0 (⟨#[]⟩ : ByteArray) [] []) (GPolicy.mk (⟨#[]⟩ : ByteArray) 0 0 0 0 0 0 0 0 []) 0 0 0 0 0 0 0 false (GVal.mk 0 0 (⟨#[]⟩ : ByteArray) [] []) (⟨#[]⟩ : ByteArray)), false, 2))
    (.ite 28 (decide (now_1 < a_0.Started))
    (.ret ((GAct.mk 0 0 (⟨#[]⟩ : ByteArray) (GVal.mk 0 0 (⟨#[]⟩ : ByteArray) [] []) (GPolicy.mk (⟨#[]⟩ : ByteArray) 0 0 0 0 0 0 0 0 []) 0 0 0 0 0 0 0 false (GVal.mk 0 0 (⟨#[]⟩ : ByteArray) [] []) (⟨#[]⟩ : ByteArray)), false, 2))
    (.ite 33 (decide (now_1 < a_0.LastBeat))
    (.ret ((GAct.mk 0 0 (⟨#[]⟩ : ByteArray) (GVal.mk 0 0 (⟨#[]⟩ : ByteArray) [] []) (GPolicy.mk (⟨#[]⟩ : ByteArray) 0 0 0 0 0 0 0 0 []) 0 0 0 0 0 0 0 false (GVal.mk 0 0 (⟨#[]⟩ : ByteArray) [] []) (⟨#[]⟩ : ByteArray)), false, 2))
    (.call (Try.m148 Try.m200.R Try.m200.ok Try.m225.R Try.m225.ok Try.m226.R Try.m226.ok Try.m202.R Try.m202.ok) details_3 fun r3 =>
    .ite 37 (!r3)
    (.ret ((GAct.mk 0 0 (⟨#[]⟩ : ByteArray) (GVal.mk 0 0 (⟨#[]⟩ : ByteArray) [] []) (GPolicy.mk (⟨#[]⟩ : ByteArray) 0 0 0 0 0 0 0 0 []) 0 0 0 0 0 0 0 false (GVal.mk 0 0 (⟨#[]⟩ : ByteArray) [] []) (⟨#[]⟩ : ByteArray)), false, 12))
    (.ret ((GAct.mk a_0.Seq a_0.Event a_0.Name a_0.Data a_0.Opts a_0.State a_0.Attempt a_0.Scheduled a_0.Due a_0.Started now_1 a_0.Token a_0.Cancel details_3 a_0.Failure), a_0.Cancel, 0))))))
noncomputable def Try.c118 : Empty → Cert Try.prog Empty (GAct × Bool × Int) := fun j => nomatch j
theorem Try.h118 (a_0 : GAct) (now_1 : Int) (token_2 : Int) (details_3 : GVal) : execC Try.prog Try.x118 Try.b118 [] (topC Try.prog Try.x118) (Try.a118 a_0 now_1 token_2 details_3) (ES.init [.val (.agg ((GAct.cs a_0).map R.c)), .val (.one (.c (.int .i64 now_1))), .val (.one (.c (.int .i64 token_2))), .val (.agg ((GVal.cs details_3).map R.c))]) :=
  of_triv (rs := Try.x118.rs) (snap := Try.x118.snap) (c := Try.a118 a_0 now_1 token_2 details_3) (by kernel_rfl)
theorem Try.g118 : ∀ j, chkAt Try.prog Try.x118 Try.b118 (Try.x118.path j) (Try.c118 j) (Try.x118.snap j).es := fun j => nomatch j
noncomputable def Try.m118 : Mir Try.prog 118 (GAct × Int × Int × GVal) (GAct × Bool × Int) where
  fs := [.agg (List.replicate 32 none), .one none, .one none, .agg (List.replicate 5 none)]
  ga := fun x => [.val (.agg ((GAct.cs x.1).map R.c)), .val (.one (.c (.int .i64 x.2.1))), .val (.one (.c (.int .i64 x.2.2.1))), .val (.agg ((GVal.cs x.2.2.2).map R.c))]
  caps := fun x => []
  res := Try.x118.res
  outs := Try.x118.outs
  R := fun x y => Runs (Try.a118 x.1 x.2.1 x.2.2.1 x.2.2.2) (KOf (fun j => Ev (Try.c118) j y) y)
  ok := fun x y h => sys_ok (cx := Try.x118) (body := Try.b118) Try.follow Try.func118 (by kernel_rfl) (by kernel_rfl) (by kernel_rfl) (by kernel_rfl) _ (Nat.le_of_ble_eq_true rfl) (by kernel_rfl) _ (Try.h118 x.1 x.2.1 x.2.2.1 x.2.2.2) (Try.g118) y h
  flat := false
  hflat := fun h => nomatch h
/-! ### 119 workflow/workflowref36.Schedule -/
noncomputable def Try.b119 : Code := Try.f119.body.getD .skip
noncomputable def Try.x119 : Cx Empty GAct where
  nt := 22
  rvs := [.cell 2 29]
  mh := []
  res := fun y => [.agg ((GAct.cs y).map R.c)]
  outs := fun y => []
  path := fun j => nomatch j
  sig := fun j => nomatch j
  snap := fun j => nomatch j
noncomputable def Try.a119 (e_0 : GEvent) : Cert Try.prog Empty GAct :=
    .ite 5 (e_0.Kind != 7)
    (.ret (GAct.mk 0 0 (⟨#[]⟩ : ByteArray) (GVal.mk 0 0 (⟨#[]⟩ : ByteArray) [] []) (GPolicy.mk (⟨#[]⟩ : ByteArray) 0 0 0 0 0 0 0 0 []) 0 0 0 0 0 0 0 false (GVal.mk 0 0 (⟨#[]⟩ : ByteArray) [] []) (⟨#[]⟩ : ByteArray)))
    (.ret (GAct.mk e_0.Seq e_0.ID e_0.Name e_0.Data e_0.Opts 1 1 e_0.Time e_0.Time 0 0 0 false (GVal.mk 0 0 (⟨#[]⟩ : ByteArray) [] []) (⟨#[]⟩ : ByteArray)))
noncomputable def Try.c119 : Empty → Cert Try.prog Empty GAct := fun j => nomatch j
theorem Try.h119 (e_0 : GEvent) : execC Try.prog Try.x119 Try.b119 [] (topC Try.prog Try.x119) (Try.a119 e_0) (ES.init [.val (.agg ((GEvent.cs e_0).map R.c))]) :=
  of_triv (rs := Try.x119.rs) (snap := Try.x119.snap) (c := Try.a119 e_0) (by kernel_rfl)
theorem Try.g119 : ∀ j, chkAt Try.prog Try.x119 Try.b119 (Try.x119.path j) (Try.c119 j) (Try.x119.snap j).es := fun j => nomatch j
noncomputable def Try.m119 : Mir Try.prog 119 GEvent GAct where
  fs := [.agg (List.replicate 24 none)]
  ga := fun x => [.val (.agg ((GEvent.cs x).map R.c))]
  caps := fun x => []
  res := Try.x119.res
  outs := Try.x119.outs
  R := fun x y => Runs (Try.a119 x) (KOf (fun j => Ev (Try.c119) j y) y)
  ok := fun x y h => sys_ok (cx := Try.x119) (body := Try.b119) Try.follow Try.func119 (by kernel_rfl) (by kernel_rfl) (by kernel_rfl) (by kernel_rfl) _ (Nat.le_of_ble_eq_true rfl) (by kernel_rfl) _ (Try.h119 x) (Try.g119) y h
  flat := false
  hflat := fun h => nomatch h
/-! ### 121 workflow/workflowref36.Cancel -/
noncomputable def Try.b121 : Code := Try.f121.body.getD .skip
noncomputable def Try.x121 : Cx Empty GAct where
  nt := 5
  rvs := [.cell 2 29]
  mh := []
  res := fun y => [.agg ((GAct.cs y).map R.c)]
  outs := fun y => []
  path := fun j => nomatch j
  sig := fun j => nomatch j
  snap := fun j => nomatch j
noncomputable def Try.a121 (a_0 : GAct) : Cert Try.prog Empty GAct :=
    .ret (GAct.mk a_0.Seq a_0.Event a_0.Name a_0.Data a_0.Opts a_0.State a_0.Attempt a_0.Scheduled a_0.Due a_0.Started a_0.LastBeat a_0.Token true a_0.Details a_0.Failure)
noncomputable def Try.c121 : Empty → Cert Try.prog Empty GAct := fun j => nomatch j
theorem Try.h121 (a_0 : GAct) : execC Try.prog Try.x121 Try.b121 [] (topC Try.prog Try.x121) (Try.a121 a_0) (ES.init [.val (.agg ((GAct.cs a_0).map R.c))]) :=
  of_triv (rs := Try.x121.rs) (snap := Try.x121.snap) (c := Try.a121 a_0) (by kernel_rfl)
theorem Try.g121 : ∀ j, chkAt Try.prog Try.x121 Try.b121 (Try.x121.path j) (Try.c121 j) (Try.x121.snap j).es := fun j => nomatch j
noncomputable def Try.m121 : Mir Try.prog 121 GAct GAct where
  fs := [.agg (List.replicate 32 none)]
  ga := fun x => [.val (.agg ((GAct.cs x).map R.c))]
  caps := fun x => []
  res := Try.x121.res
  outs := Try.x121.outs
  R := fun x y => Runs (Try.a121 x) (KOf (fun j => Ev (Try.c121) j y) y)
  ok := fun x y h => sys_ok (cx := Try.x121) (body := Try.b121) Try.follow Try.func121 (by kernel_rfl) (by kernel_rfl) (by kernel_rfl) (by kernel_rfl) _ (Nat.le_of_ble_eq_true rfl) (by kernel_rfl) _ (Try.h121 x) (Try.g121) y h
  flat := false
  hflat := fun h => nomatch h
/-! ### 29 workflow/workflowlaw36.ActivityReports -/
noncomputable def Try.b29 : Code := Try.f29.body.getD .skip
noncomputable def Try.x29 : Cx Empty Bool where
  nt := 117
  rvs := [.tmp 10]
  mh := []
  res := fun y => [.one (.c (.bool y))]
  outs := fun y => []
  path := fun j => nomatch j
  sig := fun j => nomatch j
  snap := fun j => nomatch j
noncomputable def Try.a29 (a_0 : GAct) (e_1 : GEvent) (now_2 : Int) (token_3 : Int) (details_4 : GVal) : Cert Try.prog Empty Bool :=
    .call Try.m88 a_0 fun r1 =>
    .ite 24 (!r1)
    (.call Try.m89 () fun r2 =>
    .ret r2)
    (.call Try.m98 e_1 fun r3 =>
    .ite 29 (!r3)
    (.call Try.m89 () fun r4 =>
    .ret r4)
    (.call Try.m98 (GEvent.mk 0 0 0 0 0 0 0 (⟨#[]⟩ : ByteArray) (⟨#[]⟩ : ByteArray) details_4 (GPolicy.mk (⟨#[]⟩ : ByteArray) 0 0 0 0 0 0 0 0 [])) fun r5 =>
    .ite 34 (!r5)
    (.call Try.m89 () fun r6 =>
    .ret r6)
    (.call Try.m96 (a_0, now_2, token_3) fun r7 =>
    .call Try.m116 (a_0, now_2, token_3) fun r8 =>
    .call Try.m117 (a_0, now_2, token_3, details_4) fun r9 =>
    .call Try.m118 (a_0, now_2, token_3, details_4) fun r10 =>
    .call Try.m99 e_1 fun r11 =>
    .call Try.m119 e_1 fun r12 =>
    .call Try.m94 (r11, r12) fun r13 =>
    .ite 73 r13
    (.ite 78 (r7.2 == r8.2)
    (.call Try.m94 (r7.1, r8.1) fun r14 =>
    .ite 83 r14
    (.call Try.m94 (r9.1, r10.1) fun r15 =>
    .ite 88 r15
    (.ite 93 (r9.2.1 == r10.2.1)
    (.ite 98 (r9.2.2 == r10.2.2)
    (.call Try.m97 (a_0, token_3) fun r16 =>
    .call Try.m120 (a_0, token_3) fun r17 =>
    .ite 107 (r16 == r17)
    (.call Try.m100 a_0 fun r18 =>
    .call Try.m121 a_0 fun r19 =>
    .call Try.m94 (r18, r19) fun r20 =>
    .ite 114 r20
    (.call Try.m89 () fun r21 =>
    .ret r21)
    (.ret false))
    (.ret false))
    (.ret false))
    (.ret false))
    (.ret false))
    (.ret false))
    (.ret false))
    (.ret false))))
noncomputable def Try.c29 : Empty → Cert Try.prog Empty Bool := fun j => nomatch j
theorem Try.h29 (a_0 : GAct) (e_1 : GEvent) (now_2 : Int) (token_3 : Int) (details_4 : GVal) : execC Try.prog Try.x29 Try.b29 [] (topC Try.prog Try.x29) (Try.a29 a_0 e_1 now_2 token_3 details_4) (ES.init [.val (.agg ((GAct.cs a_0).map R.c)), .val (.agg ((GEvent.cs e_1).map R.c)), .val (.one (.c (.int .i64 now_2))), .val (.one (.c (.int .i64 token_3))), .val (.agg ((GVal.cs details_4).map R.c))]) :=
  of_triv (rs := Try.x29.rs) (snap := Try.x29.snap) (c := Try.a29 a_0 e_1 now_2 token_3 details_4) (by kernel_rfl)
theorem Try.g29 : ∀ j, chkAt Try.prog Try.x29 Try.b29 (Try.x29.path j) (Try.c29 j) (Try.x29.snap j).es := fun j => nomatch j
noncomputable def Try.m29 : Mir Try.prog 29 (GAct × GEvent × Int × Int × GVal) Bool where
  fs := [.agg (List.replicate 32 none), .agg (List.replicate 24 none), .one none, .one none, .agg (List.replicate 5 none)]
  ga := fun x => [.val (.agg ((GAct.cs x.1).map R.c)), .val (.agg ((GEvent.cs x.2.1).map R.c)), .val (.one (.c (.int .i64 x.2.2.1))), .val (.one (.c (.int .i64 x.2.2.2.1))), .val (.agg ((GVal.cs x.2.2.2.2).map R.c))]
  caps := fun x => []
  res := Try.x29.res
  outs := Try.x29.outs
  R := fun x y => Runs (Try.a29 x.1 x.2.1 x.2.2.1 x.2.2.2.1 x.2.2.2.2) (KOf (fun j => Ev (Try.c29) j y) y)
  ok := fun x y h => sys_ok (cx := Try.x29) (body := Try.b29) Try.follow Try.func29 (by kernel_rfl) (by kernel_rfl) (by kernel_rfl) (by kernel_rfl) _ (Nat.le_of_ble_eq_true rfl) (by kernel_rfl) _ (Try.h29 x.1 x.2.1 x.2.2.1 x.2.2.2.1 x.2.2.2.2) (Try.g29) y h
  flat := true
  hflat := fun _ _ => flatE rfl
end Go.Proofs
