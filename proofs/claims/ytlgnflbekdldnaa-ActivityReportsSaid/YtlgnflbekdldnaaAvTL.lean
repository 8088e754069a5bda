/- Printed by pr.py. -/
import Derived.Test.YtlgnflbekdldnaaAvTK
set_option linter.unusedVariables false
set_option maxRecDepth 100000
set_option maxHeartbeats 2000000
namespace Go.Proofs
open Go Go.AV
abbrev Try.O123 (Q : (GVal × Int) → Int → Prop) : Prop := ∀ x y, Q x y → SpecG Try.prog 123 ([.val (.agg ((GVal.cs x.1).map R.c)), .val (.one (.c (.int .i64 x.2)))] ++ ([] : List C).map fun c => .val (.one (.c c))) [.one (.c (.int .i64 y))] []
noncomputable def Try.w123 (Q : (GVal × Int) → Int → Prop) (ok : Try.O123 Q) : Mir Try.prog 123 (GVal × Int) Int where
  fs := [.agg (List.replicate 5 none), .one none]
  ga := fun x => [.val (.agg ((GVal.cs x.1).map R.c)), .val (.one (.c (.int .i64 x.2)))]
  caps := fun x => []
  res := fun y => [.one (.c (.int .i64 y))]
  outs := fun y => []
  R := Q
  ok := ok
  flat := true
  hflat := fun _ _ => flatE rfl
/-! ### 123 workflow/workflowlaw03.Few -/
inductive Try.J123 where
  | s0 (most_t1 : Int) (v_t2 : GVal) (i_t5 : Int)
  | s1 (most_t1 : Int) (v_t2 : GVal)
  | s2 (most_t1 : Int) (v_t2 : GVal) (i_t6 : Int)
noncomputable def Try.b123 : Code := Try.f123.body.getD .skip
noncomputable def Try.x123 : Cx Try.J123 Int where
  nt := 51
  rvs := [.tmp 4]
  mh := []
  res := fun y => [.one (.c (.int .i64 y))]
  outs := fun y => []
  path := fun
    | .s0 _ _ _ => [0, 1, 0, 1, 1]
    | .s1 _ _ => [1, 1, 1]
    | .s2 _ _ _ => [0, 1, 0, 1, 1, 1]
  sig := fun
    | .s0 _ _ _ => [1, 2, 5]
    | .s1 _ _ => [1, 2]
    | .s2 _ _ _ => [1, 2, 6]
  snap := fun
    | .s0 most_t1 v_t2 i_t5 => ⟨[(1, .one (.c (.int .i64 most_t1))), (2, .one (.ptr 0 1 0)), (5, .one (.c (.int .i64 i_t5)))], [((0, 1), .box ((GVal.cs v_t2).map A.c))]⟩
    | .s1 most_t1 v_t2 => ⟨[(1, .one (.c (.int .i64 most_t1))), (2, .one (.ptr 0 1 0))], [((0, 1), .box ((GVal.cs v_t2).map A.c))]⟩
    | .s2 most_t1 v_t2 i_t6 => ⟨[(1, .one (.c (.int .i64 most_t1))), (2, .one (.ptr 0 1 0)), (6, .one (.c (.int .i64 i_t6)))], [((0, 1), .box ((GVal.cs v_t2).map A.c))]⟩
noncomputable def Try.a123 (R123 : (GVal × Int) → Int → Prop) (ok123 : Try.O123 R123) (v_0 : GVal) (most_1 : Int) : Cert Try.prog Try.J123 Int :=
    .jump (.s0 (IntKind.i64.wrap ((IntKind.i64.wrap (most_1 - 1)) - (v_0.Text.size : Int))) v_0 0) [(2000, 1)]
noncomputable def Try.c123 (R123 : (GVal × Int) → Int → Prop) (ok123 : Try.O123 R123) : Try.J123 → Cert Try.prog Try.J123 Int
  | .s0 most_t1 v_t2 i_t5 =>
    .len E.str v_t2.Keys <|
    .ite 18 (decide (i_t5 < (v_t2.Keys.length : Int)))
    (.ite 21 (decide (0 ≤ most_t1))
    (.elem E.str v_t2.Keys i_t5 fun a1 =>
    .jump (.s0 (IntKind.i64.wrap (most_t1 - (a1.size : Int))) v_t2 (IntKind.i64.wrap (i_t5 + 1))) [(0, 1)])
    (.jump (.s1 most_t1 v_t2) [(0, 1)]))
    (.jump (.s1 most_t1 v_t2) [(0, 1)])
  | .s1 most_t1 v_t2 =>
    .jump (.s2 most_t1 v_t2 0) [(0, 1)]
  | .s2 most_t1 v_t2 i_t6 =>
    .len E.GVal v_t2.Items <|
    .ite 37 (decide (i_t6 < (v_t2.Items.length : Int)))
    (.ite 40 (decide (0 ≤ most_t1))
    (.elem E.GVal v_t2.Items i_t6 fun a2 =>
    .call (Try.w123 R123 ok123) (a2, most_t1) fun r3 =>
    .jump (.s2 r3 v_t2 (IntKind.i64.wrap (i_t6 + 1))) [(0, 1)])
    (.ret most_t1))
    (.ret most_t1)
theorem Try.h123 (R123 : (GVal × Int) → Int → Prop) (ok123 : Try.O123 R123) (v_0 : GVal) (most_1 : Int) : execC Try.prog Try.x123 Try.b123 [] (topC Try.prog Try.x123) (Try.a123 R123 ok123 v_0 most_1) (ES.init [.val (.agg ((GVal.cs v_0).map R.c)), .val (.one (.c (.int .i64 most_1)))]) :=
  of_triv (rs := Try.x123.rs) (snap := Try.x123.snap) (c := Try.a123 R123 ok123 v_0 most_1) (by kernel_rfl)
theorem Try.g123 (R123 : (GVal × Int) → Int → Prop) (ok123 : Try.O123 R123) : ∀ j, chkAt Try.prog Try.x123 Try.b123 (Try.x123.path j) ((Try.c123 R123 ok123) j) (Try.x123.snap j).es
  | .s0 most_t1 v_t2 i_t5 => of_triv (rs := Try.x123.rs) (snap := Try.x123.snap) (c := Try.c123 R123 ok123 (.s0 most_t1 v_t2 i_t5)) (by kernel_rfl)
  | .s1 most_t1 v_t2 => of_triv (rs := Try.x123.rs) (snap := Try.x123.snap) (c := Try.c123 R123 ok123 (.s1 most_t1 v_t2)) (by kernel_rfl)
  | .s2 most_t1 v_t2 i_t6 => of_triv (rs := Try.x123.rs) (snap := Try.x123.snap) (c := Try.c123 R123 ok123 (.s2 most_t1 v_t2 i_t6)) (by kernel_rfl)
noncomputable def Try.n123 : Nat → {Q : (GVal × Int) → Int → Prop // Try.O123 Q}
  | 0 => ⟨fun _ _ => False, fun _ _ h => h.elim⟩
  | n + 1 => ⟨fun x y => Runs (Try.a123 (Try.n123 n).1 (Try.n123 n).2 x.1 x.2) (KOf (fun j => Ev (Try.c123 (Try.n123 n).1 (Try.n123 n).2) j y) y), fun x y h => sys_ok (cx := Try.x123) (body := Try.b123) Try.follow Try.func123 (by kernel_rfl) (by kernel_rfl) (by kernel_rfl) (by kernel_rfl) _ (Nat.le_of_ble_eq_true rfl) (by kernel_rfl) _ (Try.h123 (Try.n123 n).1 (Try.n123 n).2 x.1 x.2) (Try.g123 (Try.n123 n).1 (Try.n123 n).2) y h⟩
noncomputable def Try.m123 : Mir Try.prog 123 (GVal × Int) Int := Try.w123 (fun x y => ∃ n, (Try.n123 n).1 x y) (fun x y h => (Try.n123 h.choose).2 x y h.choose_spec)
/-! ### 98 workflow/workflowlaw22.Small -/
inductive Try.J98 where
  | s0 (e_t1 : GEvent) (most_t3 : Int) (i_t4 : Int)
noncomputable def Try.b98 : Code := Try.f98.body.getD .skip
noncomputable def Try.x98 : Cx Try.J98 Bool where
  nt := 45
  rvs := [.tmp 2]
  mh := []
  res := fun y => [.one (.c (.bool y))]
  outs := fun y => []
  path := fun
    | .s0 _ _ _ => [0, 1, 0, 1, 1]
  sig := fun
    | .s0 _ _ _ => [1, 3, 4]
  snap := fun
    | .s0 e_t1 most_t3 i_t4 => ⟨[(1, .one (.ptr 0 1 0)), (3, .one (.c (.int .i64 most_t3))), (4, .one (.c (.int .i64 i_t4)))], [((0, 1), .box ((GEvent.cs e_t1).map A.c))]⟩
noncomputable def Try.a98 (e_0 : GEvent) : Cert Try.prog Try.J98 Bool :=
    .call Try.m123 (e_0.Data, 6000) fun r1 =>
    .jump (.s0 e_0 (IntKind.i64.wrap ((IntKind.i64.wrap ((IntKind.i64.wrap (r1 - (e_0.Name.size : Int))) - (e_0.Key.size : Int))) - (e_0.Opts.Queue.size : Int))) 0) [(1000, 1)]
noncomputable def Try.c98 : Try.J98 → Cert Try.prog Try.J98 Bool
  | .s0 e_t1 most_t3 i_t4 =>
    .len E.str e_t1.Opts.Fatal <|
    .ite 27 (decide (i_t4 < (e_t1.Opts.Fatal.length : Int)))
    (.ite 30 (decide (0 ≤ most_t3))
    (.elem E.str e_t1.Opts.Fatal i_t4 fun a2 =>
    .jump (.s0 e_t1 (IntKind.i64.wrap ((IntKind.i64.wrap (most_t3 - 1)) - (a2.size : Int))) (IntKind.i64.wrap (i_t4 + 1))) [(0, 1)])
    (.ret (decide (0 ≤ most_t3))))
    (.ret (decide (0 ≤ most_t3)))
theorem Try.h98 (e_0 : GEvent) : execC Try.prog Try.x98 Try.b98 [] (topC Try.prog Try.x98) (Try.a98 e_0) (ES.init [.val (.agg ((GEvent.cs e_0).map R.c))]) :=
  of_triv (rs := Try.x98.rs) (snap := Try.x98.snap) (c := Try.a98 e_0) (by kernel_rfl)
theorem Try.g98 : ∀ j, chkAt Try.prog Try.x98 Try.b98 (Try.x98.path j) (Try.c98 j) (Try.x98.snap j).es
  | .s0 e_t1 most_t3 i_t4 => of_triv (rs := Try.x98.rs) (snap := Try.x98.snap) (c := Try.c98 (.s0 e_t1 most_t3 i_t4)) (by kernel_rfl)
noncomputable def Try.m98 : Mir Try.prog 98 GEvent Bool where
  fs := [.agg (List.replicate 24 none)]
  ga := fun x => [.val (.agg ((GEvent.cs x).map R.c))]
  caps := fun x => []
  res := Try.x98.res
  outs := Try.x98.outs
  R := fun x y => Runs (Try.a98 x) (KOf (fun j => Ev (Try.c98) j y) y)
  ok := fun x y h => sys_ok (cx := Try.x98) (body := Try.b98) Try.follow Try.func98 (by kernel_rfl) (by kernel_rfl) (by kernel_rfl) (by kernel_rfl) _ (Nat.le_of_ble_eq_true rfl) (by kernel_rfl) _ (Try.h98 x) (Try.g98) y h
  flat := true
  hflat := fun _ _ => flatE rfl
/-! ### 88 workflow/workflowlaw36.small -/
noncomputable def Try.b88 : Code := Try.f88.body.getD .skip
noncomputable def Try.x88 : Cx Empty Bool where
  nt := 19
  rvs := [.tmp 2]
  mh := []
  res := fun y => [.one (.c (.bool y))]
  outs := fun y => []
  path := fun j => nomatch j
  sig := fun j => nomatch j
  snap := fun j => nomatch j
noncomputable def Try.a88 (a_0 : GAct) : Cert Try.prog Empty Bool :=
    .call Try.m98 (GEvent.mk 0 0 0 0 0 0 0 a_0.Name a_0.Failure a_0.Data a_0.Opts) fun r1 =>
    .ite 13 r1
    (.call Try.m98 (GEvent.mk 0 0 0 0 0 0 0 (⟨#[]⟩ : ByteArray) (⟨#[]⟩ : ByteArray) a_0.Details (GPolicy.mk (⟨#[]⟩ : ByteArray) 0 0 0 0 0 0 0 0 [])) fun r2 =>
    .ret r2)
    (.ret false)
noncomputable def Try.c88 : Empty → Cert Try.prog Empty Bool := fun j => nomatch j
theorem Try.h88 (a_0 : GAct) : execC Try.prog Try.x88 Try.b88 [] (topC Try.prog Try.x88) (Try.a88 a_0) (ES.init [.val (.agg ((GAct.cs a_0).map R.c))]) :=
  of_triv (rs := Try.x88.rs) (snap := Try.x88.snap) (c := Try.a88 a_0) (by kernel_rfl)
theorem Try.g88 : ∀ j, chkAt Try.prog Try.x88 Try.b88 (Try.x88.path j) (Try.c88 j) (Try.x88.snap j).es := fun j => nomatch j
noncomputable def Try.m88 : Mir Try.prog 88 GAct Bool where
  fs := [.agg (List.replicate 32 none)]
  ga := fun x => [.val (.agg ((GAct.cs x).map R.c))]
  caps := fun x => []
  res := Try.x88.res
  outs := Try.x88.outs
  R := fun x y => Runs (Try.a88 x) (KOf (fun j => Ev (Try.c88) j y) y)
  ok := fun x y h => sys_ok (cx := Try.x88) (body := Try.b88) Try.follow Try.func88 (by kernel_rfl) (by kernel_rfl) (by kernel_rfl) (by kernel_rfl) _ (Nat.le_of_ble_eq_true rfl) (by kernel_rfl) _ (Try.h88 x) (Try.g88) y h
  flat := true
  hflat := fun _ _ => flatE rfl
/-! ### 161 workflow/activity.clean -/
noncomputable def Try.b161 : Code := Try.f161.body.getD .skip
noncomputable def Try.x161 : Cx Empty GAct where
  nt := 18
  rvs := [.cell 2 29]
  mh := []
  res := fun y => [.agg (((((((GAct.cs y).map R.c).set 6 (.own 25 5 (E.GVal.L y.Data.Items))).set 7 (.own 9 1 (E.str.L y.Data.Keys))).set 17 (.own 9 1 (E.str.L y.Opts.Fatal))).set 29 (.own 25 5 (E.GVal.L y.Details.Items))).set 30 (.own 9 1 (E.str.L y.Details.Keys)))]
  outs := fun y => []
  path := fun j => nomatch j
  sig := fun j => nomatch j
  snap := fun j => nomatch j
noncomputable def Try.a161 (a_0 : GAct) : Cert Try.prog Empty GAct :=
    .call Try.m153 a_0.Data fun r1 =>
    .call Try.m153 a_0.Details fun r2 =>
    .app E.str 16 [] a_0.Opts.Fatal <|
    .ret (GAct.mk a_0.Seq a_0.Event a_0.Name r1 (GPolicy.mk a_0.Opts.Queue a_0.Opts.ToStart a_0.Opts.ToClose a_0.Opts.Total a_0.Opts.Beat a_0.Opts.First a_0.Opts.Coef a_0.Opts.Most a_0.Opts.Attempts ([] ++ a_0.Opts.Fatal)) a_0.State a_0.Attempt a_0.Scheduled a_0.Due a_0.Started a_0.LastBeat a_0.Token a_0.Cancel r2 a_0.Failure)
noncomputable def Try.c161 : Empty → Cert Try.prog Empty GAct := fun j => nomatch j
theorem Try.h161 (a_0 : GAct) : execC Try.prog Try.x161 Try.b161 [] (topC Try.prog Try.x161) (Try.a161 a_0) (ES.init [.val (.agg ((GAct.cs a_0).map R.c))]) :=
  of_triv (rs := Try.x161.rs) (snap := Try.x161.snap) (c := Try.a161 a_0) (by kernel_rfl)
theorem Try.g161 : ∀ j, chkAt Try.prog Try.x161 Try.b161 (Try.x161.path j) (Try.c161 j) (Try.x161.snap j).es := fun j => nomatch j
noncomputable def Try.m161 : Mir Try.prog 161 GAct GAct where
  fs := [.agg (List.replicate 32 none)]
  ga := fun x => [.val (.agg ((GAct.cs x).map R.c))]
  caps := fun x => []
  res := Try.x161.res
  outs := Try.x161.outs
  R := fun x y => Runs (Try.a161 x) (KOf (fun j => Ev (Try.c161) j y) y)
  ok := fun x y h => sys_ok (cx := Try.x161) (body := Try.b161) Try.follow Try.func161 (by kernel_rfl) (by kernel_rfl) (by kernel_rfl) (by kernel_rfl) _ (Nat.le_of_ble_eq_true rfl) (by kernel_rfl) _ (Try.h161 x) (Try.g161) y h
  flat := false
  hflat := fun h => nomatch h
/-! ### 165 workflow/activity.clock -/
noncomputable def Try.b165 : Code := Try.f165.body.getD .skip
noncomputable def Try.x165 : Cx Empty Bool where
  nt := 9
  rvs := [.tmp 2]
  mh := []
  res := fun y => [.one (.c (.bool y))]
  outs := fun y => []
  path := fun j => nomatch j
  sig := fun j => nomatch j
  snap := fun j => nomatch j
noncomputable def Try.a165 (now_0 : Int) : Cert Try.prog Empty Bool :=
    .ite 5 (decide (0 ≤ now_0))
    (.ret (decide (now_0 ≤ 1099511627776)))
    (.ret false)
noncomputable def Try.c165 : Empty → Cert Try.prog Empty Bool := fun j => nomatch j
theorem Try.h165 (now_0 : Int) : execC Try.prog Try.x165 Try.b165 [] (topC Try.prog Try.x165) (Try.a165 now_0) (ES.init [.val (.one (.c (.int .i64 now_0)))]) :=
  of_triv (rs := Try.x165.rs) (snap := Try.x165.snap) (c := Try.a165 now_0) (by kernel_rfl)
theorem Try.g165 : ∀ j, chkAt Try.prog Try.x165 Try.b165 (Try.x165.path j) (Try.c165 j) (Try.x165.snap j).es := fun j => nomatch j
noncomputable def Try.m165 : Mir Try.prog 165 Int Bool where
  fs := [.one none]
  ga := fun x => [.val (.one (.c (.int .i64 x)))]
  caps := fun x => []
  res := Try.x165.res
  outs := Try.x165.outs
  R := fun x y => Runs (Try.a165 x) (KOf (fun j => Ev (Try.c165) j y) y)
  ok := fun x y h => sys_ok (cx := Try.x165) (body := Try.b165) Try.follow Try.func165 (by kernel_rfl) (by kernel_rfl) (by kernel_rfl) (by kernel_rfl) _ (Nat.le_of_ble_eq_true rfl) (by kernel_rfl) _ (Try.h165 x) (Try.g165) y h
  flat := true
  hflat := fun _ _ => flatE rfl
/-! ### 162 workflow/activity.again -/
noncomputable def Try.b162 : Code := Try.f162.body.getD .skip
noncomputable def Try.x162 : Cx Empty (GAct × Bool) where
  nt := 64
  rvs := [.cell 8 29, .tmp 9]
  mh := []
  res := fun y => [.agg ((GAct.cs y.1).map R.c), .one (.c (.bool y.2))]
  outs := fun y => []
  path := fun j => nomatch j
  sig := fun j => nomatch j
  snap := fun j => nomatch j
noncomputable def Try.a162 (a_0 : GAct) (now_1 : Int) (failure_2 : ByteArray) (seed_3 : Int) : Cert Try.prog Empty (GAct × Bool) :=
    .ite 14 a_0.Cancel
    (.ret (a_0, false))
    (.call Try.m165 now_1 fun r1 =>
    .ite 19 (!r1)
    (.ret (a_0, false))
    (.ite 24 (decide (a_0.Scheduled < 0))
    (.ret (a_0, false))
    (.ite 29 (decide (now_1 < a_0.Scheduled))
    (.ret (a_0, false))
    (.call Try.m61 (a_0.Opts, a_0.Attempt, failure_2, (IntKind.i64.wrap (now_1 - a_0.Scheduled)), seed_3) fun r2 =>
    .ite 46 (!r2.2)
    (.ret (a_0, false))
    (.ret ((GAct.mk a_0.Seq a_0.Event a_0.Name a_0.Data a_0.Opts 1 (IntKind.i64.wrap (a_0.Attempt + 1)) a_0.Scheduled (if 1099511627776 < (IntKind.i64.wrap (now_1 + r2.1)) then 1099511627776 else (IntKind.i64.wrap (now_1 + r2.1))) 0 0 0 a_0.Cancel a_0.Details failure_2), true))))))
noncomputable def Try.c162 : Empty → Cert Try.prog Empty (GAct × Bool) := fun j => nomatch j
theorem Try.h162 (a_0 : GAct) (now_1 : Int) (failure_2 : ByteArray) (seed_3 : Int) : execC Try.prog Try.x162 Try.b162 [] (topC Try.prog Try.x162) (Try.a162 a_0 now_1 failure_2 seed_3) (ES.init [.val (.agg ((GAct.cs a_0).map R.c)), .val (.one (.c (.int .i64 now_1))), .val (.one (.c (.str failure_2))), .val (.one (.c (.int .i64 seed_3)))]) :=
  of_triv (rs := Try.x162.rs) (snap := Try.x162.snap) (c := Try.a162 a_0 now_1 failure_2 seed_3) (by kernel_rfl)
theorem Try.g162 : ∀ j, chkAt Try.prog Try.x162 Try.b162 (Try.x162.path j) (Try.c162 j) (Try.x162.snap j).es := fun j => nomatch j
noncomputable def Try.m162 : Mir Try.prog 162 (GAct × Int × ByteArray × Int) (GAct × Bool) where
  fs := [.agg (List.replicate 32 none), .one none, .one none, .one none]
  ga := fun x => [.val (.agg ((GAct.cs x.1).map R.c)), .val (.one (.c (.int .i64 x.2.1))), .val (.one (.c (.str x.2.2.1))), .val (.one (.c (.int .i64 x.2.2.2)))]
  caps := fun x => []
  res := Try.x162.res
  outs := Try.x162.outs
  R := fun x y => Runs (Try.a162 x.1 x.2.1 x.2.2.1 x.2.2.2) (KOf (fun j => Ev (Try.c162) j y) y)
  ok := fun x y h => sys_ok (cx := Try.x162) (body := Try.b162) Try.follow Try.func162 (by kernel_rfl) (by kernel_rfl) (by kernel_rfl) (by kernel_rfl) _ (Nat.le_of_ble_eq_true rfl) (by kernel_rfl) _ (Try.h162 x.1 x.2.1 x.2.2.1 x.2.2.2) (Try.g162) y h
  flat := false
  hflat := fun h => nomatch h
/-! ### 90 workflow/activity.Fail -/
noncomputable def Try.b90 : Code := Try.f90.body.getD .skip
noncomputable def Try.x90 : Cx Empty (GAct × GAOutcome) where
  nt := 28
  rvs := [.cell 8 29, .cell 9 122]
  mh := []
  res := fun y => [.agg ((GAct.cs y.1).map R.c), .agg ((GAOutcome.cs y.2).map R.c)]
  outs := fun y => []
  path := fun j => nomatch j
  sig := fun j => nomatch j
  snap := fun j => nomatch j
noncomputable def Try.a90 (a_0 : GAct) (now_1 : Int) (failure_2 : ByteArray) (seed_3 : Int) : Cert Try.prog Empty (GAct × GAOutcome) :=
    .call Try.m161 a_0 fun r1 =>
    .call Try.m162 (r1, now_1, failure_2, seed_3) fun r2 =>
    .ite 22 r2.2
    (.ret (r2.1, (GAOutcome.mk 0 true 0 (⟨#[]⟩ : ByteArray))))
    (.ret (r1, (GAOutcome.mk 10 false 0 failure_2)))
noncomputable def Try.c90 : Empty → Cert Try.prog Empty (GAct × GAOutcome) := fun j => nomatch j
theorem Try.h90 (a_0 : GAct) (now_1 : Int) (failure_2 : ByteArray) (seed_3 : Int) : execC Try.prog Try.x90 Try.b90 [] (topC Try.prog Try.x90) (Try.a90 a_0 now_1 failure_2 seed_3) (ES.init [.val (.agg ((GAct.cs a_0).map R.c)), .val (.one (.c (.int .i64 now_1))), .val (.one (.c (.str failure_2))), .val (.one (.c (.int .i64 seed_3)))]) :=
  of_triv (rs := Try.x90.rs) (snap := Try.x90.snap) (c := Try.a90 a_0 now_1 failure_2 seed_3) (by kernel_rfl)
theorem Try.g90 : ∀ j, chkAt Try.prog Try.x90 Try.b90 (Try.x90.path j) (Try.c90 j) (Try.x90.snap j).es := fun j => nomatch j
noncomputable def Try.m90 : Mir Try.prog 90 (GAct × Int × ByteArray × Int) (GAct × GAOutcome) where
  fs := [.agg (List.replicate 32 none), .one none, .one none, .one none]
  ga := fun x => [.val (.agg ((GAct.cs x.1).map R.c)), .val (.one (.c (.int .i64 x.2.1))), .val (.one (.c (.str x.2.2.1))), .val (.one (.c (.int .i64 x.2.2.2)))]
  caps := fun x => []
  res := Try.x90.res
  outs := Try.x90.outs
  R := fun x y => Runs (Try.a90 x.1 x.2.1 x.2.2.1 x.2.2.2) (KOf (fun j => Ev (Try.c90) j y) y)
  ok := fun x y h => sys_ok (cx := Try.x90) (body := Try.b90) Try.follow Try.func90 (by kernel_rfl) (by kernel_rfl) (by kernel_rfl) (by kernel_rfl) _ (Nat.le_of_ble_eq_true rfl) (by kernel_rfl) _ (Try.h90 x.1 x.2.1 x.2.2.1 x.2.2.2) (Try.g90) y h
  flat := false
  hflat := fun h => nomatch h
/-! ### 30 workflow/deadline.Due -/
inductive Try.J30 where
  | s0 (option_t8 : Int) (from_t9 : Int) (applies_t10 : Bool)
noncomputable def Try.b30 : Code := Try.f30.body.getD .skip
noncomputable def Try.x30 : Cx Try.J30 (Int × Bool) where
  nt := 77
  rvs := [.tmp 4, .tmp 5]
  mh := []
  res := fun y => [.one (.c (.int .i64 y.1)), .one (.c (.bool y.2))]
  outs := fun y => []
  path := fun
    | .s0 _ _ _ => [1, 1, 1, 1, 1, 1]
  sig := fun
    | .s0 _ _ _ => [8, 9, 10]
  snap := fun
    | .s0 option_t8 from_t9 applies_t10 => ⟨[(8, .one (.c (.int .i64 option_t8))), (9, .one (.c (.int .i64 from_t9))), (10, .one (.c (.bool applies_t10)))], []⟩
noncomputable def Try.a30 (a_0 : GAct) (kind_1 : Int) : Cert Try.prog Try.J30 (Int × Bool) :=
    .ite 18 (kind_1 == 1)
    (.jump (.s0 a_0.Opts.ToStart a_0.Due (a_0.State == 1)) [])
    (.ite 26 (kind_1 == 2)
    (.jump (.s0 a_0.Opts.ToClose a_0.Started (a_0.State == 2)) [])
    (.ite 34 (kind_1 == 3)
    (.ite 42 (a_0.State == 1)
    (.jump (.s0 a_0.Opts.Total a_0.Scheduled true) [])
    (.jump (.s0 a_0.Opts.Total a_0.Scheduled (a_0.State == 2)) []))
    (.ite 45 (kind_1 == 4)
    (.jump (.s0 a_0.Opts.Beat (if a_0.Started < a_0.LastBeat then a_0.LastBeat else a_0.Started) (a_0.State == 2)) [])
    (.jump (.s0 0 0 false) []))))
noncomputable def Try.c30 : Try.J30 → Cert Try.prog Try.J30 (Int × Bool)
  | .s0 option_t8 from_t9 applies_t10 =>
    .ite 58 (!applies_t10)
    (.ret (0, false))
    (.ite 62 (decide (option_t8 < 1))
    (.ret (0, false))
    (.ite 66 (decide (1099511627776 < option_t8))
    (.ret (0, false))
    (.ite 70 (decide (from_t9 < 0))
    (.ret (0, false))
    (.ite 73 (decide (4611686018427387904 < from_t9))
    (.ret (0, false))
    (.ret ((IntKind.i64.wrap (from_t9 + option_t8)), true))))))
theorem Try.h30 (a_0 : GAct) (kind_1 : Int) : execC Try.prog Try.x30 Try.b30 [] (topC Try.prog Try.x30) (Try.a30 a_0 kind_1) (ES.init [.val (.agg ((GAct.cs a_0).map R.c)), .val (.one (.c (.int .i64 kind_1)))]) :=
  of_triv (rs := Try.x30.rs) (snap := Try.x30.snap) (c := Try.a30 a_0 kind_1) (by kernel_rfl)
theorem Try.g30 : ∀ j, chkAt Try.prog Try.x30 Try.b30 (Try.x30.path j) (Try.c30 j) (Try.x30.snap j).es
  | .s0 option_t8 from_t9 applies_t10 => of_triv (rs := Try.x30.rs) (snap := Try.x30.snap) (c := Try.c30 (.s0 option_t8 from_t9 applies_t10)) (by kernel_rfl)
noncomputable def Try.m30 : Mir Try.prog 30 (GAct × Int) (Int × Bool) where
  fs := [.agg (List.replicate 32 none), .one none]
  ga := fun x => [.val (.agg ((GAct.cs x.1).map R.c)), .val (.one (.c (.int .i64 x.2)))]
  caps := fun x => []
  res := Try.x30.res
  outs := Try.x30.outs
  R := fun x y => Runs (Try.a30 x.1 x.2) (KOf (fun j => Ev (Try.c30) j y) y)
  ok := fun x y h => sys_ok (cx := Try.x30) (body := Try.b30) Try.follow Try.func30 (by kernel_rfl) (by kernel_rfl) (by kernel_rfl) (by kernel_rfl) _ (Nat.le_of_ble_eq_true rfl) (by kernel_rfl) _ (Try.h30 x.1 x.2) (Try.g30) y h
  flat := true
  hflat := fun _ _ => flatE rfl
/-! ### 33 workflow/deadline.First -/
inductive Try.J33 where
  | s0 (a_t1 : GAct) (due_t4 : Int) (kind_t5 : Int) (k_t6 : Int)
noncomputable def Try.b33 : Code := Try.f33.body.getD .skip
noncomputable def Try.x33 : Cx Try.J33 (Int × Int) where
  nt := 33
  rvs := [.tmp 2, .tmp 3]
  mh := []
  res := fun y => [.one (.c (.int .i64 y.1)), .one (.c (.int .i64 y.2))]
  outs := fun y => []
  path := fun
    | .s0 _ _ _ _ => [0, 1, 0, 1, 1]
  sig := fun
    | .s0 _ _ _ _ => [1, 4, 5, 6]
  snap := fun
    | .s0 a_t1 due_t4 kind_t5 k_t6 => ⟨[(1, .one (.ptr 0 1 0)), (4, .one (.c (.int .i64 due_t4))), (5, .one (.c (.int .i64 kind_t5))), (6, .one (.c (.int .i64 k_t6)))], [((0, 1), .box ((GAct.cs a_t1).map A.c))]⟩
noncomputable def Try.a33 (a_0 : GAct) : Cert Try.prog Try.J33 (Int × Int) :=
    .jump (.s0 a_0 0 0 1) [(1000, 1)]
noncomputable def Try.c33 : Try.J33 → Cert Try.prog Try.J33 (Int × Int)
  | .s0 a_t1 due_t4 kind_t5 k_t6 =>
    .ite 10 (decide (k_t6 ≤ 4))
    (.call Try.m30 (a_t1, k_t6) fun r1 =>
    .ite 20 r1.2
    (.ite 23 (kind_t5 == 0)
    (.jump (.s0 a_t1 r1.1 k_t6 (IntKind.i64.wrap (k_t6 + 1))) [(0, 1)])
    (.ite 28 (decide (r1.1 < due_t4))
    (.jump (.s0 a_t1 r1.1 k_t6 (IntKind.i64.wrap (k_t6 + 1))) [(0, 1)])
    (.jump (.s0 a_t1 due_t4 kind_t5 (IntKind.i64.wrap (k_t6 + 1))) [(0, 1)])))
    (.jump (.s0 a_t1 due_t4 kind_t5 (IntKind.i64.wrap (k_t6 + 1))) [(0, 1)]))
    (.ret (due_t4, kind_t5))
theorem Try.h33 (a_0 : GAct) : execC Try.prog Try.x33 Try.b33 [] (topC Try.prog Try.x33) (Try.a33 a_0) (ES.init [.val (.agg ((GAct.cs a_0).map R.c))]) :=
  of_triv (rs := Try.x33.rs) (snap := Try.x33.snap) (c := Try.a33 a_0) (by kernel_rfl)
theorem Try.g33 : ∀ j, chkAt Try.prog Try.x33 Try.b33 (Try.x33.path j) (Try.c33 j) (Try.x33.snap j).es
  | .s0 a_t1 due_t4 kind_t5 k_t6 => of_triv (rs := Try.x33.rs) (snap := Try.x33.snap) (c := Try.c33 (.s0 a_t1 due_t4 kind_t5 k_t6)) (by kernel_rfl)
noncomputable def Try.m33 : Mir Try.prog 33 GAct (Int × Int) where
  fs := [.agg (List.replicate 32 none)]
  ga := fun x => [.val (.agg ((GAct.cs x).map R.c))]
  caps := fun x => []
  res := Try.x33.res
  outs := Try.x33.outs
  R := fun x y => Runs (Try.a33 x) (KOf (fun j => Ev (Try.c33) j y) y)
  ok := fun x y h => sys_ok (cx := Try.x33) (body := Try.b33) Try.follow Try.func33 (by kernel_rfl) (by kernel_rfl) (by kernel_rfl) (by kernel_rfl) _ (Nat.le_of_ble_eq_true rfl) (by kernel_rfl) _ (Try.h33 x) (Try.g33) y h
  flat := true
  hflat := fun _ _ => flatE rfl
/-! ### 35 workflow/deadline.Passed -/
noncomputable def Try.b35 : Code := Try.f35.body.getD .skip
noncomputable def Try.x35 : Cx Empty Int where
  nt := 20
  rvs := [.tmp 4]
  mh := []
  res := fun y => [.one (.c (.int .i64 y))]
  outs := fun y => []
  path := fun j => nomatch j
  sig := fun j => nomatch j
  snap := fun j => nomatch j
noncomputable def Try.a35 (a_0 : GAct) (now_1 : Int) : Cert Try.prog Empty Int :=
    .call Try.m33 a_0 fun r1 =>
    .ite 14 (r1.2 != 0)
    (.ite 18 (decide (now_1 < r1.1))
    (.ret 0)
    (.ret r1.2))
    (.ret r1.2)
noncomputable def Try.c35 : Empty → Cert Try.prog Empty Int := fun j => nomatch j
theorem Try.h35 (a_0 : GAct) (now_1 : Int) : execC Try.prog Try.x35 Try.b35 [] (topC Try.prog Try.x35) (Try.a35 a_0 now_1) (ES.init [.val (.agg ((GAct.cs a_0).map R.c)), .val (.one (.c (.int .i64 now_1)))]) :=
  of_triv (rs := Try.x35.rs) (snap := Try.x35.snap) (c := Try.a35 a_0 now_1) (by kernel_rfl)
theorem Try.g35 : ∀ j, chkAt Try.prog Try.x35 Try.b35 (Try.x35.path j) (Try.c35 j) (Try.x35.snap j).es := fun j => nomatch j
noncomputable def Try.m35 : Mir Try.prog 35 (GAct × Int) Int where
  fs := [.agg (List.replicate 32 none), .one none]
  ga := fun x => [.val (.agg ((GAct.cs x.1).map R.c)), .val (.one (.c (.int .i64 x.2)))]
  caps := fun x => []
  res := Try.x35.res
  outs := Try.x35.outs
  R := fun x y => Runs (Try.a35 x.1 x.2) (KOf (fun j => Ev (Try.c35) j y) y)
  ok := fun x y h => sys_ok (cx := Try.x35) (body := Try.b35) Try.follow Try.func35 (by kernel_rfl) (by kernel_rfl) (by kernel_rfl) (by kernel_rfl) _ (Nat.le_of_ble_eq_true rfl) (by kernel_rfl) _ (Try.h35 x.1 x.2) (Try.g35) y h
  flat := true
  hflat := fun _ _ => flatE rfl
/-! ### 92 workflow/activity.Expire -/
inductive Try.J92 where
  | s0 (now_t1 : Int) (seed_t2 : Int) (a_t3 : GAct) (t6 : GAct) (t7 : GAOutcome) (kind_t8 : Int) (t21 : Bool)
noncomputable def Try.b92 : Code := Try.f92.body.getD .skip
noncomputable def Try.x92 : Cx Try.J92 (GAct × GAOutcome) where
  nt := 37
  rvs := [.cell 6 29, .cell 7 122]
  mh := []
  res := fun y => [.agg ((GAct.cs y.1).map R.c), .agg ((GAOutcome.cs y.2).map R.c)]
  outs := fun y => []
  path := fun
    | .s0 _ _ _ _ _ _ _ => [1, 1, 1, 0, 1, 0, 1, 1, 1]
  sig := fun
    | .s0 _ _ _ _ _ _ _ => [1, 2, 3, 6, 7, 8, 21]
  snap := fun
    | .s0 now_t1 seed_t2 a_t3 t6 t7 kind_t8 t21 => ⟨[(1, .one (.c (.int .i64 now_t1))), (2, .one (.c (.int .i64 seed_t2))), (3, .one (.ptr 0 1 0)), (6, .one (.ptr 6 1 0)), (7, .one (.ptr 7 1 0)), (8, .one (.c (.int .i64 kind_t8))), (21, .one (.c (.bool t21)))], [((0, 1), .box (((((((GAct.cs a_t3).map A.c).set 6 (.own 1 1)).set 7 (.own 2 1)).set 17 (.own 3 1)).set 29 (.own 4 1)).set 30 (.own 5 1))), ((1, 1), .arr 25 5 (E.GVal.L a_t3.Data.Items)), ((2, 1), .arr 9 1 (E.str.L a_t3.Data.Keys)), ((3, 1), .arr 9 1 (E.str.L a_t3.Opts.Fatal)), ((4, 1), .arr 25 5 (E.GVal.L a_t3.Details.Items)), ((5, 1), .arr 9 1 (E.str.L a_t3.Details.Keys)), ((6, 1), .box (((((((GAct.cs t6).map A.c).set 6 .nil).set 7 .nil).set 17 .nil).set 29 .nil).set 30 .nil)), ((7, 1), .box ((GAOutcome.cs t7).map A.c))]⟩
noncomputable def Try.a92 (a_0 : GAct) (now_1 : Int) (seed_2 : Int) : Cert Try.prog Try.J92 (GAct × GAOutcome) :=
    .call Try.m161 a_0 fun r1 =>
    .call Try.m35 (r1, now_1) fun r2 =>
    .ite 17 (r2 == 0)
    (.ret (r1, (GAOutcome.mk 0 false 0 (⟨#[]⟩ : ByteArray))))
    (.ite 21 (r2 == 2)
    (.jump (.s0 now_1 seed_2 r1 (GAct.mk 0 0 (⟨#[]⟩ : ByteArray) (GVal.mk 0 0 (⟨#[]⟩ : ByteArray) [] []) (GPolicy.mk (⟨#[]⟩ : ByteArray) 0 0 0 0 0 0 0 0 []) 0 0 0 0 0 0 0 false (GVal.mk 0 0 (⟨#[]⟩ : ByteArray) [] []) (⟨#[]⟩ : ByteArray)) (GAOutcome.mk 0 false 0 (⟨#[]⟩ : ByteArray)) r2 true) [(3000, 1), (12006, 1), (12007, 1), (12017, 1), (12029, 1), (12030, 1), (6000, 1), (7000, 1)])
    (.jump (.s0 now_1 seed_2 r1 (GAct.mk 0 0 (⟨#[]⟩ : ByteArray) (GVal.mk 0 0 (⟨#[]⟩ : ByteArray) [] []) (GPolicy.mk (⟨#[]⟩ : ByteArray) 0 0 0 0 0 0 0 0 []) 0 0 0 0 0 0 0 false (GVal.mk 0 0 (⟨#[]⟩ : ByteArray) [] []) (⟨#[]⟩ : ByteArray)) (GAOutcome.mk 0 false 0 (⟨#[]⟩ : ByteArray)) r2 (r2 == 4)) [(3000, 1), (12006, 1), (12007, 1), (12017, 1), (12029, 1), (12030, 1), (6000, 1), (7000, 1)]))
noncomputable def Try.c92 : Try.J92 → Cert Try.prog Try.J92 (GAct × GAOutcome)
  | .s0 now_t1 seed_t2 a_t3 t6 t7 kind_t8 t21 =>
    .ite 21 t21
    (.call Try.m162 (a_t3, now_t1, (⟨#[116, 105, 109, 101, 111, 117, 116]⟩ : ByteArray), seed_t2) fun r3 =>
    .ite 31 r3.2
    (.ret (r3.1, (GAOutcome.mk 0 true 0 (⟨#[]⟩ : ByteArray))))
    (.ret (a_t3, (GAOutcome.mk 11 false kind_t8 (⟨#[]⟩ : ByteArray)))))
    (.ret (a_t3, (GAOutcome.mk 11 false kind_t8 (⟨#[]⟩ : ByteArray))))
theorem Try.h92 (a_0 : GAct) (now_1 : Int) (seed_2 : Int) : execC Try.prog Try.x92 Try.b92 [] (topC Try.prog Try.x92) (Try.a92 a_0 now_1 seed_2) (ES.init [.val (.agg ((GAct.cs a_0).map R.c)), .val (.one (.c (.int .i64 now_1))), .val (.one (.c (.int .i64 seed_2)))]) :=
  of_triv (rs := Try.x92.rs) (snap := Try.x92.snap) (c := Try.a92 a_0 now_1 seed_2) (by kernel_rfl)
theorem Try.g92 : ∀ j, chkAt Try.prog Try.x92 Try.b92 (Try.x92.path j) (Try.c92 j) (Try.x92.snap j).es
  | .s0 now_t1 seed_t2 a_t3 t6 t7 kind_t8 t21 => of_triv (rs := Try.x92.rs) (snap := Try.x92.snap) (c := Try.c92 (.s0 now_t1 seed_t2 a_t3 t6 t7 kind_t8 t21)) (by kernel_rfl)
noncomputable def Try.m92 : Mir Try.prog 92 (GAct × Int × Int) (GAct × GAOutcome) where
  fs := [.agg (List.replicate 32 none), .one none, .one none]
  ga := fun x => [.val (.agg ((GAct.cs x.1).map R.c)), .val (.one (.c (.int .i64 x.2.1))), .val (.one (.c (.int .i64 x.2.2)))]
  caps := fun x => []
  res := Try.x92.res
  outs := Try.x92.outs
  R := fun x y => Runs (Try.a92 x.1 x.2.1 x.2.2) (KOf (fun j => Ev (Try.c92) j y) y)
  ok := fun x y h => sys_ok (cx := Try.x92) (body := Try.b92) Try.follow Try.func92 (by kernel_rfl) (by kernel_rfl) (by kernel_rfl) (by kernel_rfl) _ (Nat.le_of_ble_eq_true rfl) (by kernel_rfl) _ (Try.h92 x.1 x.2.1 x.2.2) (Try.g92) y h
  flat := false
  hflat := fun h => nomatch h
/-! ### 96 workflow/activity.Start -/
inductive Try.J96 where
  | s0 (now_t1 : Int) (token_t2 : Int) (a_t3 : GAct) (t6 : GAct) (t8 : Bool)
noncomputable def Try.b96 : Code := Try.f96.body.getD .skip
noncomputable def Try.x96 : Cx Try.J96 (GAct × Int) where
  nt := 37
  rvs := [.cell 6 29, .tmp 7]
  mh := []
  res := fun y => [.agg (((((((GAct.cs y.1).map R.c).set 6 (.own 25 5 (E.GVal.L y.1.Data.Items))).set 7 (.own 9 1 (E.str.L y.1.Data.Keys))).set 17 (.own 9 1 (E.str.L y.1.Opts.Fatal))).set 29 (.own 25 5 (E.GVal.L y.1.Details.Items))).set 30 (.own 9 1 (E.str.L y.1.Details.Keys))), .one (.c (.int .i64 y.2))]
  outs := fun y => []
  path := fun
    | .s0 _ _ _ _ _ => [1, 0, 0, 1]
  sig := fun
    | .s0 _ _ _ _ _ => [1, 2, 3, 6, 8]
  snap := fun
    | .s0 now_t1 token_t2 a_t3 t6 t8 => ⟨[(1, .one (.c (.int .i64 now_t1))), (2, .one (.c (.int .i64 token_t2))), (3, .one (.ptr 0 1 0)), (6, .one (.ptr 1 1 0)), (8, .one (.c (.bool t8)))], [((0, 1), .box ((GAct.cs a_t3).map A.c)), ((1, 1), .box (((((((GAct.cs t6).map A.c).set 6 .nil).set 7 .nil).set 17 .nil).set 29 .nil).set 30 .nil))]⟩
noncomputable def Try.a96 (a_0 : GAct) (now_1 : Int) (token_2 : Int) : Cert Try.prog Try.J96 (GAct × Int) :=
    .call Try.m165 now_1 fun r1 =>
    .ite 12 (!r1)
    (.jump (.s0 now_1 token_2 a_0 (GAct.mk 0 0 (⟨#[]⟩ : ByteArray) (GVal.mk 0 0 (⟨#[]⟩ : ByteArray) [] []) (GPolicy.mk (⟨#[]⟩ : ByteArray) 0 0 0 0 0 0 0 0 []) 0 0 0 0 0 0 0 false (GVal.mk 0 0 (⟨#[]⟩ : ByteArray) [] []) (⟨#[]⟩ : ByteArray)) true) [(3000, 1), (6000, 1)])
    (.jump (.s0 now_1 token_2 a_0 (GAct.mk 0 0 (⟨#[]⟩ : ByteArray) (GVal.mk 0 0 (⟨#[]⟩ : ByteArray) [] []) (GPolicy.mk (⟨#[]⟩ : ByteArray) 0 0 0 0 0 0 0 0 []) 0 0 0 0 0 0 0 false (GVal.mk 0 0 (⟨#[]⟩ : ByteArray) [] []) (⟨#[]⟩ : ByteArray)) (decide (token_2 < 1))) [(3000, 1), (6000, 1)])
noncomputable def Try.c96 : Try.J96 → Cert Try.prog Try.J96 (GAct × Int)
  | .s0 now_t1 token_t2 a_t3 t6 t8 =>
    .ite 8 t8
    (.ret ((GAct.mk 0 0 (⟨#[]⟩ : ByteArray) (GVal.mk 0 0 (⟨#[]⟩ : ByteArray) [] []) (GPolicy.mk (⟨#[]⟩ : ByteArray) 0 0 0 0 0 0 0 0 []) 0 0 0 0 0 0 0 false (GVal.mk 0 0 (⟨#[]⟩ : ByteArray) [] []) (⟨#[]⟩ : ByteArray)), 2))
    (.ite 21 (a_t3.State != 1)
    (.ret ((GAct.mk 0 0 (⟨#[]⟩ : ByteArray) (GVal.mk 0 0 (⟨#[]⟩ : ByteArray) [] []) (GPolicy.mk (⟨#[]⟩ : ByteArray) 0 0 0 0 0 0 0 0 []) 0 0 0 0 0 0 0 false (GVal.mk 0 0 (⟨#[]⟩ : ByteArray) [] []) (⟨#[]⟩ : ByteArray)), 16))
    (.ite 17 (decide (now_t1 < a_t3.Due))
    (.ret ((GAct.mk 0 0 (⟨#[]⟩ : ByteArray) (GVal.mk 0 0 (⟨#[]⟩ : ByteArray) [] []) (GPolicy.mk (⟨#[]⟩ : ByteArray) 0 0 0 0 0 0 0 0 []) 0 0 0 0 0 0 0 false (GVal.mk 0 0 (⟨#[]⟩ : ByteArray) [] []) (⟨#[]⟩ : ByteArray)), 16))
    (.call Try.m161 a_t3 fun r2 =>
    .ret ((GAct.mk r2.Seq r2.Event r2.Name r2.Data r2.Opts 2 r2.Attempt r2.Scheduled r2.Due now_t1 0 token_t2 r2.Cancel r2.Details r2.Failure), 0))))
theorem Try.h96 (a_0 : GAct) (now_1 : Int) (token_2 : Int) : execC Try.prog Try.x96 Try.b96 [] (topC Try.prog Try.x96) (Try.a96 a_0 now_1 token_2) (ES.init [.val (.agg ((GAct.cs a_0).map R.c)), .val (.one (.c (.int .i64 now_1))), .val (.one (.c (.int .i64 token_2)))]) :=
  of_triv (rs := Try.x96.rs) (snap := Try.x96.snap) (c := Try.a96 a_0 now_1 token_2) (by kernel_rfl)
theorem Try.g96 : ∀ j, chkAt Try.prog Try.x96 Try.b96 (Try.x96.path j) (Try.c96 j) (Try.x96.snap j).es
  | .s0 now_t1 token_t2 a_t3 t6 t8 => of_triv (rs := Try.x96.rs) (snap := Try.x96.snap) (c := Try.c96 (.s0 now_t1 token_t2 a_t3 t6 t8)) (by kernel_rfl)
noncomputable def Try.m96 : Mir Try.prog 96 (GAct × Int × Int) (GAct × Int) where
  fs := [.agg (List.replicate 32 none), .one none, .one none]
  ga := fun x => [.val (.agg ((GAct.cs x.1).map R.c)), .val (.one (.c (.int .i64 x.2.1))), .val (.one (.c (.int .i64 x.2.2)))]
  caps := fun x => []
  res := Try.x96.res
  outs := Try.x96.outs
  R := fun x y => Runs (Try.a96 x.1 x.2.1 x.2.2) (KOf (fun j => Ev (Try.c96) j y) y)
  ok := fun x y h => sys_ok (cx := Try.x96) (body := Try.b96) Try.follow Try.func96 (by kernel_rfl) (by kernel_rfl) (by kernel_rfl) (by kernel_rfl) _ (Nat.le_of_ble_eq_true rfl) (by kernel_rfl) _ (Try.h96 x.1 x.2.1 x.2.2) (Try.g96) y h
  flat := false
  hflat := fun h => nomatch h
/-! ### 97 workflow/activity.Check -/
noncomputable def Try.b97 : Code := Try.f97.body.getD .skip
noncomputable def Try.x97 : Cx Empty Int where
  nt := 14
  rvs := [.tmp 4]
  mh := []
  res := fun y => [.one (.c (.int .i64 y))]
  outs := fun y => []
  path := fun j => nomatch j
  sig := fun j => nomatch j
  snap := fun j => nomatch j
noncomputable def Try.a97 (a_0 : GAct) (token_1 : Int) : Cert Try.prog Empty Int :=
    .ite 8 (a_0.State == 2)
    (.ite 13 (a_0.Token == token_1)
    (.ret 0)
    (.ret 24))
    (.ret 24)
noncomputable def Try.c97 : Empty → Cert Try.prog Empty Int := fun j => nomatch j
theorem Try.h97 (a_0 : GAct) (token_1 : Int) : execC Try.prog Try.x97 Try.b97 [] (topC Try.prog Try.x97) (Try.a97 a_0 token_1) (ES.init [.val (.agg ((GAct.cs a_0).map R.c)), .val (.one (.c (.int .i64 token_1)))]) :=
  of_triv (rs := Try.x97.rs) (snap := Try.x97.snap) (c := Try.a97 a_0 token_1) (by kernel_rfl)
theorem Try.g97 : ∀ j, chkAt Try.prog Try.x97 Try.b97 (Try.x97.path j) (Try.c97 j) (Try.x97.snap j).es := fun j => nomatch j
noncomputable def Try.m97 : Mir Try.prog 97 (GAct × Int) Int where
  fs := [.agg (List.replicate 32 none), .one none]
  ga := fun x => [.val (.agg ((GAct.cs x.1).map R.c)), .val (.one (.c (.int .i64 x.2)))]
  caps := fun x => []
  res := Try.x97.res
  outs := Try.x97.outs
  R := fun x y => Runs (Try.a97 x.1 x.2) (KOf (fun j => Ev (Try.c97) j y) y)
  ok := fun x y h => sys_ok (cx := Try.x97) (body := Try.b97) Try.follow Try.func97 (by kernel_rfl) (by kernel_rfl) (by kernel_rfl) (by kernel_rfl) _ (Nat.le_of_ble_eq_true rfl) (by kernel_rfl) _ (Try.h97 x.1 x.2) (Try.g97) y h
  flat := true
  hflat := fun _ _ => flatE rfl
/-! ### 99 workflow/activity.Schedule -/
noncomputable def Try.b99 : Code := Try.f99.body.getD .skip
noncomputable def Try.x99 : Cx Empty GAct where
  nt := 29
  rvs := [.cell 2 29]
  mh := []
  res := fun y => [.agg (((((((GAct.cs y).map R.c).set 6 (.own 25 5 (E.GVal.L y.Data.Items))).set 7 (.own 9 1 (E.str.L y.Data.Keys))).set 17 (.own 9 1 (E.str.L y.Opts.Fatal))).set 29 (.own 25 5 (E.GVal.L y.Details.Items))).set 30 (.own 9 1 (E.str.L y.Details.Keys)))]
  outs := fun y => []
  path := fun j => nomatch j
  sig := fun j => nomatch j
  snap := fun j => nomatch j
noncomputable def Try.a99 (e_0 : GEvent) : Cert Try.prog Empty GAct :=
    .ite 6 (e_0.Kind != 7)
    (.ret (GAct.mk 0 0 (⟨#[]⟩ : ByteArray) (GVal.mk 0 0 (⟨#[]⟩ : ByteArray) [] []) (GPolicy.mk (⟨#[]⟩ : ByteArray) 0 0 0 0 0 0 0 0 []) 0 0 0 0 0 0 0 false (GVal.mk 0 0 (⟨#[]⟩ : ByteArray) [] []) (⟨#[]⟩ : ByteArray)))
    (.call Try.m161 (GAct.mk e_0.Seq e_0.ID e_0.Name e_0.Data e_0.Opts 1 1 e_0.Time e_0.Time 0 0 0 false (GVal.mk 0 0 (⟨#[]⟩ : ByteArray) [] []) (⟨#[]⟩ : ByteArray)) fun r1 =>
    .ret r1)
noncomputable def Try.c99 : Empty → Cert Try.prog Empty GAct := fun j => nomatch j
theorem Try.h99 (e_0 : GEvent) : execC Try.prog Try.x99 Try.b99 [] (topC Try.prog Try.x99) (Try.a99 e_0) (ES.init [.val (.agg ((GEvent.cs e_0).map R.c))]) :=
  of_triv (rs := Try.x99.rs) (snap := Try.x99.snap) (c := Try.a99 e_0) (by kernel_rfl)
theorem Try.g99 : ∀ j, chkAt Try.prog Try.x99 Try.b99 (Try.x99.path j) (Try.c99 j) (Try.x99.snap j).es := fun j => nomatch j
noncomputable def Try.m99 : Mir Try.prog 99 GEvent GAct where
  fs := [.agg (List.replicate 24 none)]
  ga := fun x => [.val (.agg ((GEvent.cs x).map R.c))]
  caps := fun x => []
  res := Try.x99.res
  outs := Try.x99.outs
  R := fun x y => Runs (Try.a99 x) (KOf (fun j => Ev (Try.c99) j y) y)
  ok := fun x y h => sys_ok (cx := Try.x99) (body := Try.b99) Try.follow Try.func99 (by kernel_rfl) (by kernel_rfl) (by kernel_rfl) (by kernel_rfl) _ (Nat.le_of_ble_eq_true rfl) (by kernel_rfl) _ (Try.h99 x) (Try.g99) y h
  flat := false
  hflat := fun h => nomatch h
/-! ### 89 workflow/workflowlaw36.lives -/
inductive Try.J89 where
  | s0 (a_t2 : GAct) (dues_t3 : List Int) (i_t4 : Int)
noncomputable def Try.b89 : Code := Try.f89.body.getD .skip
noncomputable def Try.x89 : Cx Try.J89 Bool where
  nt := 95
  rvs := [.tmp 0]
  mh := []
  res := fun y => [.one (.c (.bool y))]
  outs := fun y => []
  path := fun
    | .s0 _ _ _ => [0, 1, 0, 1, 1, 1, 1]
  sig := fun
    | .s0 _ _ _ => [2, 3, 4]
  snap := fun
    | .s0 a_t2 dues_t3 i_t4 => ⟨[(2, .one (.ptr 0 1 0)), (3, .one (.own 1 1)), (4, .one (.c (.int .i64 i_t4)))], [((0, 1), .box ((GAct.cs a_t2).map A.c)), ((1, 1), .arr 3 1 (E.i64.L dues_t3))]⟩
noncomputable def Try.a89 : Cert Try.prog Try.J89 Bool :=
    .call Try.m99 (GEvent.mk 5 7 0 1 0 0 0 (⟨#[97]⟩ : ByteArray) (⟨#[]⟩ : ByteArray) (GVal.mk 0 0 (⟨#[]⟩ : ByteArray) [] []) (GPolicy.mk (⟨#[]⟩ : ByteArray) 0 0 0 0 2 200 0 3 [])) fun r1 =>
    .bld E.i64 [0, 2, 6] <|
    .frz 17006 1 <|
    .frz 17007 1 <|
    .frz 17017 1 <|
    .frz 17029 1 <|
    .frz 17030 1 <|
    .jump (.s0 r1 [0, 2, 6] 0) [(2000, 1), (18000, 1)]
noncomputable def Try.c89 : Try.J89 → Cert Try.prog Try.J89 Bool
  | .s0 a_t2 dues_t3 i_t4 =>
    .ite 20 (decide (i_t4 < 3))
    (.idx E.i64 dues_t3 i_t4 <|
    .eget E.i64 dues_t3 i_t4.toNat fun a2 =>
    .ite 29 (a_t2.Due != a2)
    (.ret false)
    (.call Try.m96 (a_t2, a_t2.Due, (IntKind.i64.wrap (i_t4 + 1))) fun r3 =>
    .ite 41 (r3.2 != 0)
    (.ret false)
    (.call Try.m97 (r3.1, (IntKind.i64.wrap (i_t4 + 1))) fun r4 =>
    .ite 47 (r4 != 0)
    (.ret false)
    (.call Try.m90 (r3.1, r3.1.Started, (⟨#[98, 97, 100]⟩ : ByteArray), 0) fun r5 =>
    .ite 60 (r5.2.Retry != (decide (i_t4 < 2)))
    (.ret false)
    (.ite 63 (i_t4 == 2)
    (.ite 67 (r5.2.Kind != 10)
    (.ret false)
    (.ite 73 (!strEq r5.2.Name (⟨#[98, 97, 100]⟩ : ByteArray))
    (.ret false)
    (.jump (.s0 r5.1 dues_t3 (IntKind.i64.wrap (i_t4 + 1))) [(0, 1), (1, 1)])))
    (.jump (.s0 r5.1 dues_t3 (IntKind.i64.wrap (i_t4 + 1))) [(0, 1), (1, 1)]))))))
    (.call Try.m92 ((GAct.mk 0 0 (⟨#[]⟩ : ByteArray) (GVal.mk 0 0 (⟨#[]⟩ : ByteArray) [] []) (GPolicy.mk (⟨#[]⟩ : ByteArray) 0 5 0 0 0 0 0 1 []) 2 1 0 0 10 0 1 false (GVal.mk 0 0 (⟨#[]⟩ : ByteArray) [] []) (⟨#[]⟩ : ByteArray)), 14, 0) fun r6 =>
    .call Try.m92 ((GAct.mk 0 0 (⟨#[]⟩ : ByteArray) (GVal.mk 0 0 (⟨#[]⟩ : ByteArray) [] []) (GPolicy.mk (⟨#[]⟩ : ByteArray) 0 5 0 0 0 0 0 1 []) 2 1 0 0 10 0 1 false (GVal.mk 0 0 (⟨#[]⟩ : ByteArray) [] []) (⟨#[]⟩ : ByteArray)), 15, 0) fun r7 =>
    .ite 90 ((r6.2.Kind == 0) && ((r6.2.Retry == false) && ((r6.2.Code == 0) && ((strEq r6.2.Name (⟨#[]⟩ : ByteArray)) && true))))
    (.ret ((r7.2.Kind == 11) && ((r7.2.Retry == false) && ((r7.2.Code == 2) && ((strEq r7.2.Name (⟨#[]⟩ : ByteArray)) && true)))))
    (.ret false))
theorem Try.h89 : execC Try.prog Try.x89 Try.b89 [] (topC Try.prog Try.x89) (Try.a89) (ES.init []) :=
  of_triv (rs := Try.x89.rs) (snap := Try.x89.snap) (c := Try.a89) (by kernel_rfl)
theorem Try.g89 : ∀ j, chkAt Try.prog Try.x89 Try.b89 (Try.x89.path j) (Try.c89 j) (Try.x89.snap j).es
  | .s0 a_t2 dues_t3 i_t4 => of_triv (rs := Try.x89.rs) (snap := Try.x89.snap) (c := Try.c89 (.s0 a_t2 dues_t3 i_t4)) (by kernel_rfl)
noncomputable def Try.m89 : Mir Try.prog 89 Unit Bool where
  fs := []
  ga := fun x => []
  caps := fun x => []
  res := Try.x89.res
  outs := Try.x89.outs
  R := fun x y => Runs (Try.a89) (KOf (fun j => Ev (Try.c89) j y) y)
  ok := fun x y h => sys_ok (cx := Try.x89) (body := Try.b89) Try.follow Try.func89 (by kernel_rfl) (by kernel_rfl) (by kernel_rfl) (by kernel_rfl) _ (Nat.le_of_ble_eq_true rfl) (by kernel_rfl) _ (Try.h89) (Try.g89) y h
  flat := true
  hflat := fun _ _ => flatE rfl
/-! ### 184 workflow/workflowref36.timely -/
noncomputable def Try.b184 : Code := Try.f184.body.getD .skip
noncomputable def Try.x184 : Cx Empty Bool where
  nt := 9
  rvs := [.tmp 2]
  mh := []
  res := fun y => [.one (.c (.bool y))]
  outs := fun y => []
  path := fun j => nomatch j
  sig := fun j => nomatch j
  snap := fun j => nomatch j
noncomputable def Try.a184 (n_0 : Int) : Cert Try.prog Empty Bool :=
    .ite 5 (decide (0 ≤ n_0))
    (.ret (decide (n_0 ≤ 1099511627776)))
    (.ret false)
noncomputable def Try.c184 : Empty → Cert Try.prog Empty Bool := fun j => nomatch j
theorem Try.h184 (n_0 : Int) : execC Try.prog Try.x184 Try.b184 [] (topC Try.prog Try.x184) (Try.a184 n_0) (ES.init [.val (.one (.c (.int .i64 n_0)))]) :=
  of_triv (rs := Try.x184.rs) (snap := Try.x184.snap) (c := Try.a184 n_0) (by kernel_rfl)
theorem Try.g184 : ∀ j, chkAt Try.prog Try.x184 Try.b184 (Try.x184.path j) (Try.c184 j) (Try.x184.snap j).es := fun j => nomatch j
noncomputable def Try.m184 : Mir Try.prog 184 Int Bool where
  fs := [.one none]
  ga := fun x => [.val (.one (.c (.int .i64 x)))]
  caps := fun x => []
  res := Try.x184.res
  outs := Try.x184.outs
  R := fun x y => Runs (Try.a184 x) (KOf (fun j => Ev (Try.c184) j y) y)
  ok := fun x y h => sys_ok (cx := Try.x184) (body := Try.b184) Try.follow Try.func184 (by kernel_rfl) (by kernel_rfl) (by kernel_rfl) (by kernel_rfl) _ (Nat.le_of_ble_eq_true rfl) (by kernel_rfl) _ (Try.h184 x) (Try.g184) y h
  flat := true
  hflat := fun _ _ => flatE rfl
/-! ### 163 workflow/workflowref36.again -/
inductive Try.J163 where
  | s0 (failure_t2 : ByteArray) (a_t4 : GAct) (t8 : GAct)
noncomputable def Try.b163 : Code := Try.f163.body.getD .skip
noncomputable def Try.x163 : Cx Try.J163 (GAct × Bool) where
  nt := 67
  rvs := [.cell 8 29, .tmp 9]
  mh := []
  res := fun y => [.agg ((GAct.cs y.1).map R.c), .one (.c (.bool y.2))]
  outs := fun y => []
  path := fun
    | .s0 _ _ _ => [1, 1, 1, 1, 1, 1, 1, 1]
  sig := fun
    | .s0 _ _ _ => [2, 4, 8]
  snap := fun
    | .s0 failure_t2 a_t4 t8 => ⟨[(2, .one (.c (.str failure_t2))), (4, .one (.ptr 0 1 0)), (8, .one (.ptr 1 1 0))], [((0, 1), .box ((GAct.cs a_t4).map A.c)), ((1, 1), .box (((((((GAct.cs t8).map A.c).set 6 .nil).set 7 .nil).set 17 .nil).set 29 .nil).set 30 .nil))]⟩
noncomputable def Try.a163 (a_0 : GAct) (now_1 : Int) (failure_2 : ByteArray) (seed_3 : Int) : Cert Try.prog Try.J163 (GAct × Bool) :=
    .ite 14 a_0.Cancel
    (.ret (a_0, false))
    (.call Try.m184 now_1 fun r1 =>
    .ite 19 (!r1)
    (.ret (a_0, false))
    (.ite 24 (decide (a_0.Scheduled < 0))
    (.ret (a_0, false))
    (.ite 29 (decide (now_1 < a_0.Scheduled))
    (.ret (a_0, false))
    (.call Try.m62 (a_0.Opts, a_0.Attempt, failure_2, (IntKind.i64.wrap (now_1 - a_0.Scheduled)), seed_3) fun r2 =>
    .ite 46 (!r2.2)
    (.ret (a_0, false))
    (.ite 59 (decide (1099511627776 < (IntKind.i64.wrap (now_1 + r2.1))))
    (.jump (.s0 failure_2 (GAct.mk a_0.Seq a_0.Event a_0.Name a_0.Data a_0.Opts 1 (IntKind.i64.wrap (a_0.Attempt + 1)) a_0.Scheduled 1099511627776 a_0.Started a_0.LastBeat a_0.Token a_0.Cancel a_0.Details a_0.Failure) (GAct.mk 0 0 (⟨#[]⟩ : ByteArray) (GVal.mk 0 0 (⟨#[]⟩ : ByteArray) [] []) (GPolicy.mk (⟨#[]⟩ : ByteArray) 0 0 0 0 0 0 0 0 []) 0 0 0 0 0 0 0 false (GVal.mk 0 0 (⟨#[]⟩ : ByteArray) [] []) (⟨#[]⟩ : ByteArray))) [(4000, 1), (8000, 1)])
    (.jump (.s0 failure_2 (GAct.mk a_0.Seq a_0.Event a_0.Name a_0.Data a_0.Opts 1 (IntKind.i64.wrap (a_0.Attempt + 1)) a_0.Scheduled (IntKind.i64.wrap (now_1 + r2.1)) a_0.Started a_0.LastBeat a_0.Token a_0.Cancel a_0.Details a_0.Failure) (GAct.mk 0 0 (⟨#[]⟩ : ByteArray) (GVal.mk 0 0 (⟨#[]⟩ : ByteArray) [] []) (GPolicy.mk (⟨#[]⟩ : ByteArray) 0 0 0 0 0 0 0 0 []) 0 0 0 0 0 0 0 false (GVal.mk 0 0 (⟨#[]⟩ : ByteArray) [] []) (⟨#[]⟩ : ByteArray))) [(4000, 1), (8000, 1)]))))))
noncomputable def Try.c163 : Try.J163 → Cert Try.prog Try.J163 (GAct × Bool)
  | .s0 failure_t2 a_t4 t8 =>
    .ret ((GAct.mk a_t4.Seq a_t4.Event a_t4.Name a_t4.Data a_t4.Opts a_t4.State a_t4.Attempt a_t4.Scheduled a_t4.Due 0 0 0 a_t4.Cancel a_t4.Details failure_t2), true)
theorem Try.h163 (a_0 : GAct) (now_1 : Int) (failure_2 : ByteArray) (seed_3 : Int) : execC Try.prog Try.x163 Try.b163 [] (topC Try.prog Try.x163) (Try.a163 a_0 now_1 failure_2 seed_3) (ES.init [.val (.agg ((GAct.cs a_0).map R.c)), .val (.one (.c (.int .i64 now_1))), .val (.one (.c (.str failure_2))), .val (.one (.c (.int .i64 seed_3)))]) :=
  of_triv (rs := Try.x163.rs) (snap := Try.x163.snap) (c := Try.a163 a_0 now_1 failure_2 seed_3) (by kernel_rfl)
theorem Try.g163 : ∀ j, chkAt Try.prog Try.x163 Try.b163 (Try.x163.path j) (Try.c163 j) (Try.x163.snap j).es
  | .s0 failure_t2 a_t4 t8 => of_triv (rs := Try.x163.rs) (snap := Try.x163.snap) (c := Try.c163 (.s0 failure_t2 a_t4 t8)) (by kernel_rfl)
noncomputable def Try.m163 : Mir Try.prog 163 (GAct × Int × ByteArray × Int) (GAct × Bool) where
  fs := [.agg (List.replicate 32 none), .one none, .one none, .one none]
  ga := fun x => [.val (.agg ((GAct.cs x.1).map R.c)), .val (.one (.c (.int .i64 x.2.1))), .val (.one (.c (.str x.2.2.1))), .val (.one (.c (.int .i64 x.2.2.2)))]
  caps := fun x => []
  res := Try.x163.res
  outs := Try.x163.outs
  R := fun x y => Runs (Try.a163 x.1 x.2.1 x.2.2.1 x.2.2.2) (KOf (fun j => Ev (Try.c163) j y) y)
  ok := fun x y h => sys_ok (cx := Try.x163) (body := Try.b163) Try.follow Try.func163 (by kernel_rfl) (by kernel_rfl) (by kernel_rfl) (by kernel_rfl) _ (Nat.le_of_ble_eq_true rfl) (by kernel_rfl) _ (Try.h163 x.1 x.2.1 x.2.2.1 x.2.2.2) (Try.g163) y h
  flat := false
  hflat := fun h => nomatch h
/-! ### 91 workflow/workflowref36.Fail -/
noncomputable def Try.b91 : Code := Try.f91.body.getD .skip
noncomputable def Try.x91 : Cx Empty (GAct × GAOutcome) where
  nt := 26
  rvs := [.cell 8 29, .cell 9 125]
  mh := []
  res := fun y => [.agg ((GAct.cs y.1).map R.c), .agg ((GAOutcome.cs y.2).map R.c)]
  outs := fun y => []
  path := fun j => nomatch j
  sig := fun j => nomatch j
  snap := fun j => nomatch j
noncomputable def Try.a91 (a_0 : GAct) (now_1 : Int) (failure_2 : ByteArray) (seed_3 : Int) : Cert Try.prog Empty (GAct × GAOutcome) :=
    .call Try.m163 (a_0, now_1, failure_2, seed_3) fun r1 =>
    .ite 20 r1.2
    (.ret (r1.1, (GAOutcome.mk 0 true 0 (⟨#[]⟩ : ByteArray))))
    (.ret (a_0, (GAOutcome.mk 10 false 0 failure_2)))
noncomputable def Try.c91 : Empty → Cert Try.prog Empty (GAct × GAOutcome) := fun j => nomatch j
theorem Try.h91 (a_0 : GAct) (now_1 : Int) (failure_2 : ByteArray) (seed_3 : Int) : execC Try.prog Try.x91 Try.b91 [] (topC Try.prog Try.x91) (Try.a91 a_0 now_1 failure_2 seed_3) (ES.init [.val (.agg ((GAct.cs a_0).map R.c)), .val (.one (.c (.int .i64 now_1))), .val (.one (.c (.str failure_2))), .val (.one (.c (.int .i64 seed_3)))]) :=
  of_triv (rs := Try.x91.rs) (snap := Try.x91.snap) (c := Try.a91 a_0 now_1 failure_2 seed_3) (by kernel_rfl)
theorem Try.g91 : ∀ j, chkAt Try.prog Try.x91 Try.b91 (Try.x91.path j) (Try.c91 j) (Try.x91.snap j).es := fun j => nomatch j
noncomputable def Try.m91 : Mir Try.prog 91 (GAct × Int × ByteArray × Int) (GAct × GAOutcome) where
  fs := [.agg (List.replicate 32 none), .one none, .one none, .one none]
  ga := fun x => [.val (.agg ((GAct.cs x.1).map R.c)), .val (.one (.c (.int .i64 x.2.1))), .val (.one (.c (.str x.2.2.1))), .val (.one (.c (.int .i64 x.2.2.2)))]
  caps := fun x => []
  res := Try.x91.res
  outs := Try.x91.outs
  R := fun x y => Runs (Try.a91 x.1 x.2.1 x.2.2.1 x.2.2.2) (KOf (fun j => Ev (Try.c91) j y) y)
  ok := fun x y h => sys_ok (cx := Try.x91) (body := Try.b91) Try.follow Try.func91 (by kernel_rfl) (by kernel_rfl) (by kernel_rfl) (by kernel_rfl) _ (Nat.le_of_ble_eq_true rfl) (by kernel_rfl) _ (Try.h91 x.1 x.2.1 x.2.2.1 x.2.2.2) (Try.g91) y h
  flat := false
  hflat := fun h => nomatch h
/-! ### 122 workflow/workflowref35.kindState -/
noncomputable def Try.b122 : Code := Try.f122.body.getD .skip
noncomputable def Try.x122 : Cx Empty Int where
  nt := 5
  rvs := [.tmp 2]
  mh := []
  res := fun y => [.one (.c (.int .i64 y))]
  outs := fun y => []
  path := fun j => nomatch j
  sig := fun j => nomatch j
  snap := fun j => nomatch j
noncomputable def Try.a122 (kind_0 : Int) : Cert Try.prog Empty Int :=
    .ite 4 (kind_0 == 1)
    (.ret 1)
    (.ret 2)
noncomputable def Try.c122 : Empty → Cert Try.prog Empty Int := fun j => nomatch j
theorem Try.h122 (kind_0 : Int) : execC Try.prog Try.x122 Try.b122 [] (topC Try.prog Try.x122) (Try.a122 kind_0) (ES.init [.val (.one (.c (.int .i64 kind_0)))]) :=
  of_triv (rs := Try.x122.rs) (snap := Try.x122.snap) (c := Try.a122 kind_0) (by kernel_rfl)
theorem Try.g122 : ∀ j, chkAt Try.prog Try.x122 Try.b122 (Try.x122.path j) (Try.c122 j) (Try.x122.snap j).es := fun j => nomatch j
noncomputable def Try.m122 : Mir Try.prog 122 Int Int where
  fs := [.one none]
  ga := fun x => [.val (.one (.c (.int .i64 x)))]
  caps := fun x => []
  res := Try.x122.res
  outs := Try.x122.outs
  R := fun x y => Runs (Try.a122 x) (KOf (fun j => Ev (Try.c122) j y) y)
  ok := fun x y h => sys_ok (cx := Try.x122) (body := Try.b122) Try.follow Try.func122 (by kernel_rfl) (by kernel_rfl) (by kernel_rfl) (by kernel_rfl) _ (Nat.le_of_ble_eq_true rfl) (by kernel_rfl) _ (Try.h122 x) (Try.g122) y h
  flat := true
  hflat := fun _ _ => flatE rfl
/-! ### 31 workflow/workflowref35.Due -/
inductive Try.J31 where
  | s0 (option_t6 : Int) (from_t7 : Int) (state_t8 : Bool)
noncomputable def Try.b31 : Code := Try.f31.body.getD .skip
noncomputable def Try.x31 : Cx Try.J31 (Int × Bool) where
  nt := 78
  rvs := [.tmp 4, .tmp 5]
  mh := []
  res := fun y => [.one (.c (.int .i64 y.1)), .one (.c (.bool y.2))]
  outs := fun y => []
  path := fun
    | .s0 _ _ _ => [1, 1, 1, 1]
  sig := fun
    | .s0 _ _ _ => [6, 7, 8]
  snap := fun
    | .s0 option_t6 from_t7 state_t8 => ⟨[(6, .one (.c (.int .i64 option_t6))), (7, .one (.c (.int .i64 from_t7))), (8, .one (.c (.bool state_t8)))], []⟩
noncomputable def Try.a31 (a_0 : GAct) (kind_1 : Int) : Cert Try.prog Try.J31 (Int × Bool) :=
    .call Try.m122 kind_1 fun r1 =>
    .ite 15 (kind_1 == 1)
    (.jump (.s0 a_0.Opts.ToStart a_0.Due (a_0.State == r1)) [])
    (.ite 22 (kind_1 == 2)
    (.jump (.s0 a_0.Opts.ToClose a_0.Started (a_0.State == r1)) [])
    (.ite 29 (kind_1 == 3)
    (.ite 39 (a_0.State == 1)
    (.jump (.s0 a_0.Opts.Total a_0.Scheduled true) [])
    (.jump (.s0 a_0.Opts.Total a_0.Scheduled (a_0.State == 2)) []))
    (.ite 44 (kind_1 == 4)
    (.ite 54 (decide (a_0.Started < a_0.LastBeat))
    (.jump (.s0 a_0.Opts.Beat a_0.LastBeat (a_0.State == r1)) [])
    (.jump (.s0 a_0.Opts.Beat a_0.Started (a_0.State == r1)) []))
    (.jump (.s0 0 0 (a_0.State == r1)) []))))
noncomputable def Try.c31 : Try.J31 → Cert Try.prog Try.J31 (Int × Bool)
  | .s0 option_t6 from_t7 state_t8 =>
    .ite 59 (!state_t8)
    (.ret (0, false))
    (.ite 63 (decide (option_t6 < 1))
    (.ret (0, false))
    (.ite 67 (decide (1099511627776 < option_t6))
    (.ret (0, false))
    (.ite 71 (decide (from_t7 < 0))
    (.ret (0, false))
    (.ite 74 (decide (4611686018427387904 < from_t7))
    (.ret (0, false))
    (.ret ((IntKind.i64.wrap (from_t7 + option_t6)), true))))))
theorem Try.h31 (a_0 : GAct) (kind_1 : Int) : execC Try.prog Try.x31 Try.b31 [] (topC Try.prog Try.x31) (Try.a31 a_0 kind_1) (ES.init [.val (.agg ((GAct.cs a_0).map R.c)), .val (.one (.c (.int .i64 kind_1)))]) :=
  of_triv (rs := Try.x31.rs) (snap := Try.x31.snap) (c := Try.a31 a_0 kind_1) (by kernel_rfl)
theorem Try.g31 : ∀ j, chkAt Try.prog Try.x31 Try.b31 (Try.x31.path j) (Try.c31 j) (Try.x31.snap j).es
  | .s0 option_t6 from_t7 state_t8 => of_triv (rs := Try.x31.rs) (snap := Try.x31.snap) (c := Try.c31 (.s0 option_t6 from_t7 state_t8)) (by kernel_rfl)
noncomputable def Try.m31 : Mir Try.prog 31 (GAct × Int) (Int × Bool) where
  fs := [.agg (List.replicate 32 none), .one none]
  ga := fun x => [.val (.agg ((GAct.cs x.1).map R.c)), .val (.one (.c (.int .i64 x.2)))]
  caps := fun x => []
  res := Try.x31.res
  outs := Try.x31.outs
  R := fun x y => Runs (Try.a31 x.1 x.2) (KOf (fun j => Ev (Try.c31) j y) y)
  ok := fun x y h => sys_ok (cx := Try.x31) (body := Try.b31) Try.follow Try.func31 (by kernel_rfl) (by kernel_rfl) (by kernel_rfl) (by kernel_rfl) _ (Nat.le_of_ble_eq_true rfl) (by kernel_rfl) _ (Try.h31 x.1 x.2) (Try.g31) y h
  flat := true
  hflat := fun _ _ => flatE rfl
/-! ### 34 workflow/workflowref35.First -/
inductive Try.J34 where
  | s0 (a_t1 : GAct) (time_t4 : Int) (which_t5 : Int) (kind_t6 : Int)
noncomputable def Try.b34 : Code := Try.f34.body.getD .skip
noncomputable def Try.x34 : Cx Try.J34 (Int × Int) where
  nt := 33
  rvs := [.tmp 2, .tmp 3]
  mh := []
  res := fun y => [.one (.c (.int .i64 y.1)), .one (.c (.int .i64 y.2))]
  outs := fun y => []
  path := fun
    | .s0 _ _ _ _ => [0, 1, 0, 1, 1]
  sig := fun
    | .s0 _ _ _ _ => [1, 4, 5, 6]
  snap := fun
    | .s0 a_t1 time_t4 which_t5 kind_t6 => ⟨[(1, .one (.ptr 0 1 0)), (4, .one (.c (.int .i64 time_t4))), (5, .one (.c (.int .i64 which_t5))), (6, .one (.c (.int .i64 kind_t6)))], [((0, 1), .box ((GAct.cs a_t1).map A.c))]⟩
noncomputable def Try.a34 (a_0 : GAct) : Cert Try.prog Try.J34 (Int × Int) :=
    .jump (.s0 a_0 0 0 1) [(1000, 1)]
noncomputable def Try.c34 : Try.J34 → Cert Try.prog Try.J34 (Int × Int)
  | .s0 a_t1 time_t4 which_t5 kind_t6 =>
    .ite 10 (decide (kind_t6 ≤ 4))
    (.call Try.m31 (a_t1, kind_t6) fun r1 =>
    .ite 20 r1.2
    (.ite 23 (which_t5 == 0)
    (.jump (.s0 a_t1 r1.1 kind_t6 (IntKind.i64.wrap (kind_t6 + 1))) [(0, 1)])
    (.ite 28 (decide (r1.1 < time_t4))
    (.jump (.s0 a_t1 r1.1 kind_t6 (IntKind.i64.wrap (kind_t6 + 1))) [(0, 1)])
    (.jump (.s0 a_t1 time_t4 which_t5 (IntKind.i64.wrap (kind_t6 + 1))) [(0, 1)])))
    (.jump (.s0 a_t1 time_t4 which_t5 (IntKind.i64.wrap (kind_t6 + 1))) [(0, 1)]))
    (.ret (time_t4, which_t5))
theorem Try.h34 (a_0 : GAct) : execC Try.prog Try.x34 Try.b34 [] (topC Try.prog Try.x34) (Try.a34 a_0) (ES.init [.val (.agg ((GAct.cs a_0).map R.c))]) :=
  of_triv (rs := Try.x34.rs) (snap := Try.x34.snap) (c := Try.a34 a_0) (by kernel_rfl)
theorem Try.g34 : ∀ j, chkAt Try.prog Try.x34 Try.b34 (Try.x34.path j) (Try.c34 j) (Try.x34.snap j).es
  | .s0 a_t1 time_t4 which_t5 kind_t6 => of_triv (rs := Try.x34.rs) (snap := Try.x34.snap) (c := Try.c34 (.s0 a_t1 time_t4 which_t5 kind_t6)) (by kernel_rfl)
noncomputable def Try.m34 : Mir Try.prog 34 GAct (Int × Int) where
  fs := [.agg (List.replicate 32 none)]
  ga := fun x => [.val (.agg ((GAct.cs x).map R.c))]
  caps := fun x => []
  res := Try.x34.res
  outs := Try.x34.outs
  R := fun x y => Runs (Try.a34 x) (KOf (fun j => Ev (Try.c34) j y) y)
  ok := fun x y h => sys_ok (cx := Try.x34) (body := Try.b34) Try.follow Try.func34 (by kernel_rfl) (by kernel_rfl) (by kernel_rfl) (by kernel_rfl) _ (Nat.le_of_ble_eq_true rfl) (by kernel_rfl) _ (Try.h34 x) (Try.g34) y h
  flat := true
  hflat := fun _ _ => flatE rfl
/-! ### 36 workflow/workflowref35.Passed -/
noncomputable def Try.b36 : Code := Try.f36.body.getD .skip
noncomputable def Try.x36 : Cx Empty Int where
  nt := 20
  rvs := [.tmp 4]
  mh := []
  res := fun y => [.one (.c (.int .i64 y))]
  outs := fun y => []
  path := fun j => nomatch j
  sig := fun j => nomatch j
  snap := fun j => nomatch j
noncomputable def Try.a36 (a_0 : GAct) (now_1 : Int) : Cert Try.prog Empty Int :=
    .call Try.m34 a_0 fun r1 =>
    .ite 14 (r1.2 == 0)
    (.ret 0)
    (.ite 18 (decide (now_1 < r1.1))
    (.ret 0)
    (.ret r1.2))
noncomputable def Try.c36 : Empty → Cert Try.prog Empty Int := fun j => nomatch j
theorem Try.h36 (a_0 : GAct) (now_1 : Int) : execC Try.prog Try.x36 Try.b36 [] (topC Try.prog Try.x36) (Try.a36 a_0 now_1) (ES.init [.val (.agg ((GAct.cs a_0).map R.c)), .val (.one (.c (.int .i64 now_1)))]) :=
  of_triv (rs := Try.x36.rs) (snap := Try.x36.snap) (c := Try.a36 a_0 now_1) (by kernel_rfl)
theorem Try.g36 : ∀ j, chkAt Try.prog Try.x36 Try.b36 (Try.x36.path j) (Try.c36 j) (Try.x36.snap j).es := fun j => nomatch j
noncomputable def Try.m36 : Mir Try.prog 36 (GAct × Int) Int where
  fs := [.agg (List.replicate 32 none), .one none]
  ga := fun x => [.val (.agg ((GAct.cs x.1).map R.c)), .val (.one (.c (.int .i64 x.2)))]
  caps := fun x => []
  res := Try.x36.res
  outs := Try.x36.outs
  R := fun x y => Runs (Try.a36 x.1 x.2) (KOf (fun j => Ev (Try.c36) j y) y)
  ok := fun x y h => sys_ok (cx := Try.x36) (body := Try.b36) Try.follow Try.func36 (by kernel_rfl) (by kernel_rfl) (by kernel_rfl) (by kernel_rfl) _ (Nat.le_of_ble_eq_true rfl) (by kernel_rfl) _ (Try.h36 x.1 x.2) (Try.g36) y h
  flat := true
  hflat := fun _ _ => flatE rfl
/-! ### 93 workflow/workflowref36.Expire -/
inductive Try.J93 where
  | s0 (now_t1 : Int) (seed_t2 : Int) (a_t3 : GAct) (t6 : GAct) (t7 : GAOutcome) (kind_t8 : Int) (t23 : Bool)
noncomputable def Try.b93 : Code := Try.f93.body.getD .skip
noncomputable def Try.x93 : Cx Try.J93 (GAct × GAOutcome) where
  nt := 37
  rvs := [.cell 6 29, .cell 7 125]
  mh := []
  res := fun y => [.agg ((GAct.cs y.1).map R.c), .agg ((GAOutcome.cs y.2).map R.c)]
  outs := fun y => []
  path := fun
    | .s0 _ _ _ _ _ _ _ => [1, 0, 1, 1, 1]
  sig := fun
    | .s0 _ _ _ _ _ _ _ => [1, 2, 3, 6, 7, 8, 23]
  snap := fun
    | .s0 now_t1 seed_t2 a_t3 t6 t7 kind_t8 t23 => ⟨[(1, .one (.c (.int .i64 now_t1))), (2, .one (.c (.int .i64 seed_t2))), (3, .one (.ptr 0 1 0)), (6, .one (.ptr 1 1 0)), (7, .one (.ptr 2 1 0)), (8, .one (.c (.int .i64 kind_t8))), (23, .one (.c (.bool t23)))], [((0, 1), .box ((GAct.cs a_t3).map A.c)), ((1, 1), .box (((((((GAct.cs t6).map A.c).set 6 .nil).set 7 .nil).set 17 .nil).set 29 .nil).set 30 .nil)), ((2, 1), .box ((GAOutcome.cs t7).map A.c))]⟩
noncomputable def Try.a93 (a_0 : GAct) (now_1 : Int) (seed_2 : Int) : Cert Try.prog Try.J93 (GAct × GAOutcome) :=
    .call Try.m36 (a_0, now_1) fun r1 =>
    .ite 15 (r1 == 0)
    (.ret (a_0, (GAOutcome.mk 0 false 0 (⟨#[]⟩ : ByteArray))))
    (.ite 20 (r1 == 2)
    (.jump (.s0 now_1 seed_2 a_0 (GAct.mk 0 0 (⟨#[]⟩ : ByteArray) (GVal.mk 0 0 (⟨#[]⟩ : ByteArray) [] []) (GPolicy.mk (⟨#[]⟩ : ByteArray) 0 0 0 0 0 0 0 0 []) 0 0 0 0 0 0 0 false (GVal.mk 0 0 (⟨#[]⟩ : ByteArray) [] []) (⟨#[]⟩ : ByteArray)) (GAOutcome.mk 0 false 0 (⟨#[]⟩ : ByteArray)) r1 true) [(3000, 1), (6000, 1), (7000, 1)])
    (.jump (.s0 now_1 seed_2 a_0 (GAct.mk 0 0 (⟨#[]⟩ : ByteArray) (GVal.mk 0 0 (⟨#[]⟩ : ByteArray) [] []) (GPolicy.mk (⟨#[]⟩ : ByteArray) 0 0 0 0 0 0 0 0 []) 0 0 0 0 0 0 0 false (GVal.mk 0 0 (⟨#[]⟩ : ByteArray) [] []) (⟨#[]⟩ : ByteArray)) (GAOutcome.mk 0 false 0 (⟨#[]⟩ : ByteArray)) r1 (r1 == 4)) [(3000, 1), (6000, 1), (7000, 1)]))
noncomputable def Try.c93 : Try.J93 → Cert Try.prog Try.J93 (GAct × GAOutcome)
  | .s0 now_t1 seed_t2 a_t3 t6 t7 kind_t8 t23 =>
    .ite 23 t23
    (.call Try.m163 (a_t3, now_t1, (⟨#[116, 105, 109, 101, 111, 117, 116]⟩ : ByteArray), seed_t2) fun r2 =>
    .ite 31 r2.2
    (.ret (r2.1, (GAOutcome.mk 0 true 0 (⟨#[]⟩ : ByteArray))))
    (.ret (a_t3, (GAOutcome.mk 11 false kind_t8 (⟨#[]⟩ : ByteArray)))))
    (.ret (a_t3, (GAOutcome.mk 11 false kind_t8 (⟨#[]⟩ : ByteArray))))
theorem Try.h93 (a_0 : GAct) (now_1 : Int) (seed_2 : Int) : execC Try.prog Try.x93 Try.b93 [] (topC Try.prog Try.x93) (Try.a93 a_0 now_1 seed_2) (ES.init [.val (.agg ((GAct.cs a_0).map R.c)), .val (.one (.c (.int .i64 now_1))), .val (.one (.c (.int .i64 seed_2)))]) :=
  of_triv (rs := Try.x93.rs) (snap := Try.x93.snap) (c := Try.a93 a_0 now_1 seed_2) (by kernel_rfl)
theorem Try.g93 : ∀ j, chkAt Try.prog Try.x93 Try.b93 (Try.x93.path j) (Try.c93 j) (Try.x93.snap j).es
  | .s0 now_t1 seed_t2 a_t3 t6 t7 kind_t8 t23 => of_triv (rs := Try.x93.rs) (snap := Try.x93.snap) (c := Try.c93 (.s0 now_t1 seed_t2 a_t3 t6 t7 kind_t8 t23)) (by kernel_rfl)
noncomputable def Try.m93 : Mir Try.prog 93 (GAct × Int × Int) (GAct × GAOutcome) where
  fs := [.agg (List.replicate 32 none), .one none, .one none]
  ga := fun x => [.val (.agg ((GAct.cs x.1).map R.c)), .val (.one (.c (.int .i64 x.2.1))), .val (.one (.c (.int .i64 x.2.2)))]
  caps := fun x => []
  res := Try.x93.res
  outs := Try.x93.outs
  R := fun x y => Runs (Try.a93 x.1 x.2.1 x.2.2) (KOf (fun j => Ev (Try.c93) j y) y)
  ok := fun x y h => sys_ok (cx := Try.x93) (body := Try.b93) Try.follow Try.func93 (by kernel_rfl) (by kernel_rfl) (by kernel_rfl) (by kernel_rfl) _ (Nat.le_of_ble_eq_true rfl) (by kernel_rfl) _ (Try.h93 x.1 x.2.1 x.2.2) (Try.g93) y h
  flat := false
  hflat := fun h => nomatch h
/-! ### 228 workflow/workflowref20.SamePolicy -/
inductive Try.J228 where
  | s0 (a_t2 : GPolicy) (b_t3 : GPolicy) (i_t5 : Int)
noncomputable def Try.b228 : Code := Try.f228.body.getD .skip
noncomputable def Try.x228 : Cx Try.J228 Bool where
  nt := 92
  rvs := [.tmp 4]
  mh := []
  res := fun y => [.one (.c (.bool y))]
  outs := fun y => []
  path := fun
    | .s0 _ _ _ => [0, 1, 0, 1, 1, 1]
  sig := fun
    | .s0 _ _ _ => [2, 3, 5]
  snap := fun
    | .s0 a_t2 b_t3 i_t5 => ⟨[(2, .one (.ptr 0 1 0)), (3, .one (.ptr 1 1 0)), (5, .one (.c (.int .i64 i_t5)))], [((0, 1), .box ((GPolicy.cs a_t2).map A.c)), ((1, 1), .box ((GPolicy.cs b_t3).map A.c))]⟩
noncomputable def Try.a228 (a_0 : GPolicy) (b_1 : GPolicy) : Cert Try.prog Try.J228 Bool :=
    .ite 11 (!strEq a_0.Queue b_1.Queue)
    (.ret false)
    (.ite 18 (a_0.ToStart != b_1.ToStart)
    (.ret false)
    (.ite 25 (a_0.ToClose != b_1.ToClose)
    (.ret false)
    (.ite 32 (a_0.Total != b_1.Total)
    (.ret false)
    (.ite 38 (a_0.Beat != b_1.Beat)
    (.ret false)
    (.ite 44 (a_0.First != b_1.First)
    (.ret false)
    (.ite 51 (a_0.Coef != b_1.Coef)
    (.ret false)
    (.ite 58 (a_0.Most != b_1.Most)
    (.ret false)
    (.ite 65 (a_0.Attempts != b_1.Attempts)
    (.ret false)
    (.len E.str a_0.Fatal <|
    .len E.str b_1.Fatal <|
    .ite 73 ((a_0.Fatal.length : Int) != (b_1.Fatal.length : Int))
    (.ret false)
    (.jump (.s0 a_0 b_1 0) [(2000, 1), (3000, 1)]))))))))))
noncomputable def Try.c228 : Try.J228 → Cert Try.prog Try.J228 Bool
  | .s0 a_t2 b_t3 i_t5 =>
    .len E.str a_t2.Fatal <|
    .ite 78 (decide (i_t5 < (a_t2.Fatal.length : Int)))
    (.elem E.str a_t2.Fatal i_t5 fun a1 =>
    .elem E.str b_t3.Fatal i_t5 fun a2 =>
    .ite 91 (!strEq a1 a2)
    (.ret false)
    (.jump (.s0 a_t2 b_t3 (IntKind.i64.wrap (i_t5 + 1))) [(0, 1), (1, 1)]))
    (.ret true)
theorem Try.h228 (a_0 : GPolicy) (b_1 : GPolicy) : execC Try.prog Try.x228 Try.b228 [] (topC Try.prog Try.x228) (Try.a228 a_0 b_1) (ES.init [.val (.agg ((GPolicy.cs a_0).map R.c)), .val (.agg ((GPolicy.cs b_1).map R.c))]) :=
  of_triv (rs := Try.x228.rs) (snap := Try.x228.snap) (c := Try.a228 a_0 b_1) (by kernel_rfl)
theorem Try.g228 : ∀ j, chkAt Try.prog Try.x228 Try.b228 (Try.x228.path j) (Try.c228 j) (Try.x228.snap j).es
  | .s0 a_t2 b_t3 i_t5 => of_triv (rs := Try.x228.rs) (snap := Try.x228.snap) (c := Try.c228 (.s0 a_t2 b_t3 i_t5)) (by kernel_rfl)
noncomputable def Try.m228 : Mir Try.prog 228 (GPolicy × GPolicy) Bool where
  fs := [.agg (List.replicate 10 none), .agg (List.replicate 10 none)]
  ga := fun x => [.val (.agg ((GPolicy.cs x.1).map R.c)), .val (.agg ((GPolicy.cs x.2).map R.c))]
  caps := fun x => []
  res := Try.x228.res
  outs := Try.x228.outs
  R := fun x y => Runs (Try.a228 x.1 x.2) (KOf (fun j => Ev (Try.c228) j y) y)
  ok := fun x y h => sys_ok (cx := Try.x228) (body := Try.b228) Try.follow Try.func228 (by kernel_rfl) (by kernel_rfl) (by kernel_rfl) (by kernel_rfl) _ (Nat.le_of_ble_eq_true rfl) (by kernel_rfl) _ (Try.h228 x.1 x.2) (Try.g228) y h
  flat := true
  hflat := fun _ _ => flatE rfl
/-! ### 207 workflow/workflowref22.Same -/
noncomputable def Try.b207 : Code := Try.f207.body.getD .skip
noncomputable def Try.x207 : Cx Empty Bool where
  nt := 80
  rvs := [.tmp 4]
  mh := []
  res := fun y => [.one (.c (.bool y))]
  outs := fun y => []
  path := fun j => nomatch j
  sig := fun j => nomatch j
  snap := fun j => nomatch j
noncomputable def Try.a207 (a_0 : GEvent) (b_1 : GEvent) : Cert Try.prog Empty Bool :=
    .ite 10 (a_0.ID == b_1.ID)
    (.ite 17 (a_0.Kind == b_1.Kind)
    (.ite 24 (a_0.Time == b_1.Time)
    (.ite 31 (a_0.Seq == b_1.Seq)
    (.ite 38 (a_0.Ref == b_1.Ref)
    (.ite 45 (a_0.N == b_1.N)
    (.ite 52 (a_0.Code == b_1.Code)
    (.ite 59 (strEq a_0.Name b_1.Name)
    (.ite 66 (strEq a_0.Key b_1.Key)
    (.call Try.m56 (a_0.Data, b_1.Data) fun r1 =>
    .ite 73 r1
    (.call Try.m228 (a_0.Opts, b_1.Opts) fun r2 =>
    .ret r2)
    (.ret false))
    (.ret false))
    (.ret false))
    (.ret false))
    (.ret false))
    (.ret false))
    (.ret false))
    (.ret false))
    (.ret false))
    (.ret false)
noncomputable def Try.c207 : Empty → Cert Try.prog Empty Bool := fun j => nomatch j
theorem Try.h207 (a_0 : GEvent) (b_1 : GEvent) : execC Try.prog Try.x207 Try.b207 [] (topC Try.prog Try.x207) (Try.a207 a_0 b_1) (ES.init [.val (.agg ((GEvent.cs a_0).map R.c)), .val (.agg ((GEvent.cs b_1).map R.c))]) :=
  of_triv (rs := Try.x207.rs) (snap := Try.x207.snap) (c := Try.a207 a_0 b_1) (by kernel_rfl)
theorem Try.g207 : ∀ j, chkAt Try.prog Try.x207 Try.b207 (Try.x207.path j) (Try.c207 j) (Try.x207.snap j).es := fun j => nomatch j
noncomputable def Try.m207 : Mir Try.prog 207 (GEvent × GEvent) Bool where
  fs := [.agg (List.replicate 24 none), .agg (List.replicate 24 none)]
  ga := fun x => [.val (.agg ((GEvent.cs x.1).map R.c)), .val (.agg ((GEvent.cs x.2).map R.c))]
  caps := fun x => []
  res := Try.x207.res
  outs := Try.x207.outs
  R := fun x y => Runs (Try.a207 x.1 x.2) (KOf (fun j => Ev (Try.c207) j y) y)
  ok := fun x y h => sys_ok (cx := Try.x207) (body := Try.b207) Try.follow Try.func207 (by kernel_rfl) (by kernel_rfl) (by kernel_rfl) (by kernel_rfl) _ (Nat.le_of_ble_eq_true rfl) (by kernel_rfl) _ (Try.h207 x.1 x.2) (Try.g207) y h
  flat := true
  hflat := fun _ _ => flatE rfl
/-! ### 164 workflow/workflowref25.samePolicy -/
noncomputable def Try.b164 : Code := Try.f164.body.getD .skip
noncomputable def Try.x164 : Cx Empty Bool where
  nt := 10
  rvs := [.tmp 4]
  mh := []
  res := fun y => [.one (.c (.bool y))]
  outs := fun y => []
  path := fun j => nomatch j
  sig := fun j => nomatch j
  snap := fun j => nomatch j
noncomputable def Try.a164 (a_0 : GPolicy) (b_1 : GPolicy) : Cert Try.prog Empty Bool :=
    .call Try.m207 ((GEvent.mk 0 0 0 0 0 0 0 (⟨#[]⟩ : ByteArray) (⟨#[]⟩ : ByteArray) (GVal.mk 0 0 (⟨#[]⟩ : ByteArray) [] []) a_0), (GEvent.mk 0 0 0 0 0 0 0 (⟨#[]⟩ : ByteArray) (⟨#[]⟩ : ByteArray) (GVal.mk 0 0 (⟨#[]⟩ : ByteArray) [] []) b_1)) fun r1 =>
    .ret r1
noncomputable def Try.c164 : Empty → Cert Try.prog Empty Bool := fun j => nomatch j
theorem Try.h164 (a_0 : GPolicy) (b_1 : GPolicy) : execC Try.prog Try.x164 Try.b164 [] (topC Try.prog Try.x164) (Try.a164 a_0 b_1) (ES.init [.val (.agg ((GPolicy.cs a_0).map R.c)), .val (.agg ((GPolicy.cs b_1).map R.c))]) :=
  of_triv (rs := Try.x164.rs) (snap := Try.x164.snap) (c := Try.a164 a_0 b_1) (by kernel_rfl)
theorem Try.g164 : ∀ j, chkAt Try.prog Try.x164 Try.b164 (Try.x164.path j) (Try.c164 j) (Try.x164.snap j).es := fun j => nomatch j
noncomputable def Try.m164 : Mir Try.prog 164 (GPolicy × GPolicy) Bool where
  fs := [.agg (List.replicate 10 none), .agg (List.replicate 10 none)]
  ga := fun x => [.val (.agg ((GPolicy.cs x.1).map R.c)), .val (.agg ((GPolicy.cs x.2).map R.c))]
  caps := fun x => []
  res := Try.x164.res
  outs := Try.x164.outs
  R := fun x y => Runs (Try.a164 x.1 x.2) (KOf (fun j => Ev (Try.c164) j y) y)
  ok := fun x y h => sys_ok (cx := Try.x164) (body := Try.b164) Try.follow Try.func164 (by kernel_rfl) (by kernel_rfl) (by kernel_rfl) (by kernel_rfl) _ (Nat.le_of_ble_eq_true rfl) (by kernel_rfl) _ (Try.h164 x.1 x.2) (Try.g164) y h
  flat := true
  hflat := fun _ _ => flatE rfl
/-! ### 94 workflow/workflowref25.SameAct -/
noncomputable def Try.b94 : Code := Try.f94.body.getD .skip
noncomputable def Try.x94 : Cx Empty Bool where
  nt := 108
  rvs := [.tmp 4]
  mh := []
  res := fun y => [.one (.c (.bool y))]
  outs := fun y => []
  path := fun j => nomatch j
  sig := fun j => nomatch j
  snap := fun j => nomatch j
noncomputable def Try.a94 (a_0 : GAct) (b_1 : GAct) : Cert Try.prog Empty Bool :=
    .ite 10 (a_0.Seq == b_1.Seq)
    (.ite 17 (a_0.Event == b_1.Event)
    (.ite 24 (strEq a_0.Name b_1.Name)
    (.call Try.m56 (a_0.Data, b_1.Data) fun r1 =>
    .ite 31 r1
    (.call Try.m164 (a_0.Opts, b_1.Opts) fun r2 =>
    .ite 38 r2
    (.ite 45 (a_0.State == b_1.State)
    (.ite 52 (a_0.Attempt == b_1.Attempt)
    (.ite 59 (a_0.Scheduled == b_1.Scheduled)
    (.ite 66 (a_0.Due == b_1.Due)
    (.ite 73 (a_0.Started == b_1.Started)
    (.ite 80 (a_0.LastBeat == b_1.LastBeat)
    (.ite 87 (a_0.Token == b_1.Token)
    (.ite 94 (a_0.Cancel == b_1.Cancel)
    (.call Try.m56 (a_0.Details, b_1.Details) fun r3 =>
    .ite 101 r3
    (.ret (strEq a_0.Failure b_1.Failure))
    (.ret false))
    (.ret false))
    (.ret false))
    (.ret false))
    (.ret false))
    (.ret false))
    (.ret false))
    (.ret false))
    (.ret false))
    (.ret false))
    (.ret false))
    (.ret false))
    (.ret false))
    (.ret false)
noncomputable def Try.c94 : Empty → Cert Try.prog Empty Bool := fun j => nomatch j
theorem Try.h94 (a_0 : GAct) (b_1 : GAct) : execC Try.prog Try.x94 Try.b94 [] (topC Try.prog Try.x94) (Try.a94 a_0 b_1) (ES.init [.val (.agg ((GAct.cs a_0).map R.c)), .val (.agg ((GAct.cs b_1).map R.c))]) :=
  of_triv (rs := Try.x94.rs) (snap := Try.x94.snap) (c := Try.a94 a_0 b_1) (by kernel_rfl)
theorem Try.g94 : ∀ j, chkAt Try.prog Try.x94 Try.b94 (Try.x94.path j) (Try.c94 j) (Try.x94.snap j).es := fun j => nomatch j
noncomputable def Try.m94 : Mir Try.prog 94 (GAct × GAct) Bool where
  fs := [.agg (List.replicate 32 none), .agg (List.replicate 32 none)]
  ga := fun x => [.val (.agg ((GAct.cs x.1).map R.c)), .val (.agg ((GAct.cs x.2).map R.c))]
  caps := fun x => []
  res := Try.x94.res
  outs := Try.x94.outs
  R := fun x y => Runs (Try.a94 x.1 x.2) (KOf (fun j => Ev (Try.c94) j y) y)
  ok := fun x y h => sys_ok (cx := Try.x94) (body := Try.b94) Try.follow Try.func94 (by kernel_rfl) (by kernel_rfl) (by kernel_rfl) (by kernel_rfl) _ (Nat.le_of_ble_eq_true rfl) (by kernel_rfl) _ (Try.h94 x.1 x.2) (Try.g94) y h
  flat := true
  hflat := fun _ _ => flatE rfl
/-! ### 95 workflow/workflowlaw36.same -/
noncomputable def Try.b95 : Code := Try.f95.body.getD .skip
noncomputable def Try.x95 : Cx Empty Bool where
  nt := 31
  rvs := [.tmp 4]
  mh := []
  res := fun y => [.one (.c (.bool y))]
  outs := fun y => []
  path := fun j => nomatch j
  sig := fun j => nomatch j
  snap := fun j => nomatch j
noncomputable def Try.a95 (a_0 : GAOutcome) (b_1 : GAOutcome) : Cert Try.prog Empty Bool :=
    .ite 10 (a_0.Kind == b_1.Kind)
    (.ite 17 (a_0.Retry == b_1.Retry)
    (.ite 24 (a_0.Code == b_1.Code)
    (.ret (strEq a_0.Name b_1.Name))
    (.ret false))
    (.ret false))
    (.ret false)
noncomputable def Try.c95 : Empty → Cert Try.prog Empty Bool := fun j => nomatch j
theorem Try.h95 (a_0 : GAOutcome) (b_1 : GAOutcome) : execC Try.prog Try.x95 Try.b95 [] (topC Try.prog Try.x95) (Try.a95 a_0 b_1) (ES.init [.val (.agg ((GAOutcome.cs a_0).map R.c)), .val (.agg ((GAOutcome.cs b_1).map R.c))]) :=
  of_triv (rs := Try.x95.rs) (snap := Try.x95.snap) (c := Try.a95 a_0 b_1) (by kernel_rfl)
theorem Try.g95 : ∀ j, chkAt Try.prog Try.x95 Try.b95 (Try.x95.path j) (Try.c95 j) (Try.x95.snap j).es := fun j => nomatch j
noncomputable def Try.m95 : Mir Try.prog 95 (GAOutcome × GAOutcome) Bool where
  fs := [.agg (List.replicate 4 none), .agg (List.replicate 4 none)]
  ga := fun x => [.val (.agg ((GAOutcome.cs x.1).map R.c)), .val (.agg ((GAOutcome.cs x.2).map R.c))]
  caps := fun x => []
  res := Try.x95.res
  outs := Try.x95.outs
  R := fun x y => Runs (Try.a95 x.1 x.2) (KOf (fun j => Ev (Try.c95) j y) y)
  ok := fun x y h => sys_ok (cx := Try.x95) (body := Try.b95) Try.follow Try.func95 (by kernel_rfl) (by kernel_rfl) (by kernel_rfl) (by kernel_rfl) _ (Nat.le_of_ble_eq_true rfl) (by kernel_rfl) _ (Try.h95 x.1 x.2) (Try.g95) y h
  flat := true
  hflat := fun _ _ => flatE rfl
/-! ### 22 workflow/workflowlaw36.ActivityEnds -/
noncomputable def Try.b22 : Code := Try.f22.body.getD .skip
noncomputable def Try.x22 : Cx Empty Bool where
  nt := 77
  rvs := [.tmp 8]
  mh := []
  res := fun y => [.one (.c (.bool y))]
  outs := fun y => []
  path := fun j => nomatch j
  sig := fun j => nomatch j
  snap := fun j => nomatch j
noncomputable def Try.a22 (a_0 : GAct) (now_1 : Int) (failure_2 : ByteArray) (seed_3 : Int) : Cert Try.prog Empty Bool :=
    .call Try.m88 a_0 fun r1 =>
    .ite 20 (!r1)
    (.call Try.m89 () fun r2 =>
    .ret r2)
    (.ite 24 (decide (6000 < (failure_2.size : Int)))
    (.call Try.m89 () fun r3 =>
    .ret r3)
    (.call Try.m90 (a_0, now_1, failure_2, seed_3) fun r4 =>
    .call Try.m91 (a_0, now_1, failure_2, seed_3) fun r5 =>
    .call Try.m92 (a_0, now_1, seed_3) fun r6 =>
    .call Try.m93 (a_0, now_1, seed_3) fun r7 =>
    .call Try.m94 (r4.1, r5.1) fun r8 =>
    .ite 59 r8
    (.call Try.m95 (r4.2, r5.2) fun r9 =>
    .ite 64 r9
    (.call Try.m94 (r6.1, r7.1) fun r10 =>
    .ite 69 r10
    (.call Try.m95 (r6.2, r7.2) fun r11 =>
    .ite 74 r11
    (.call Try.m89 () fun r12 =>
    .ret r12)
    (.ret false))
    (.ret false))
    (.ret false))
    (.ret false)))
noncomputable def Try.c22 : Empty → Cert Try.prog Empty Bool := fun j => nomatch j
theorem Try.h22 (a_0 : GAct) (now_1 : Int) (failure_2 : ByteArray) (seed_3 : Int) : execC Try.prog Try.x22 Try.b22 [] (topC Try.prog Try.x22) (Try.a22 a_0 now_1 failure_2 seed_3) (ES.init [.val (.agg ((GAct.cs a_0).map R.c)), .val (.one (.c (.int .i64 now_1))), .val (.one (.c (.str failure_2))), .val (.one (.c (.int .i64 seed_3)))]) :=
  of_triv (rs := Try.x22.rs) (snap := Try.x22.snap) (c := Try.a22 a_0 now_1 failure_2 seed_3) (by kernel_rfl)
theorem Try.g22 : ∀ j, chkAt Try.prog Try.x22 Try.b22 (Try.x22.path j) (Try.c22 j) (Try.x22.snap j).es := fun j => nomatch j
noncomputable def Try.m22 : Mir Try.prog 22 (GAct × Int × ByteArray × Int) Bool where
  fs := [.agg (List.replicate 32 none), .one none, .one none, .one none]
  ga := fun x => [.val (.agg ((GAct.cs x.1).map R.c)), .val (.one (.c (.int .i64 x.2.1))), .val (.one (.c (.str x.2.2.1))), .val (.one (.c (.int .i64 x.2.2.2)))]
  caps := fun x => []
  res := Try.x22.res
  outs := Try.x22.outs
  R := fun x y => Runs (Try.a22 x.1 x.2.1 x.2.2.1 x.2.2.2) (KOf (fun j => Ev (Try.c22) j y) y)
  ok := fun x y h => sys_ok (cx := Try.x22) (body := Try.b22) Try.follow Try.func22 (by kernel_rfl) (by kernel_rfl) (by kernel_rfl) (by kernel_rfl) _ (Nat.le_of_ble_eq_true rfl) (by kernel_rfl) _ (Try.h22 x.1 x.2.1 x.2.2.1 x.2.2.2) (Try.g22) y h
  flat := true
  hflat := fun _ _ => flatE rfl
/-! ### 23 workflow/workflowlaw36.ActivityTokens -/
inductive Try.J23 where
  | s0 (now_t1 : Int) (token_t2 : Int) (failure_t4 : ByteArray) (seed_t5 : Int) (a_t6 : GAct) (b_t13 : GAct)
noncomputable def Try.b23 : Code := Try.f23.body.getD .skip
noncomputable def Try.x23 : Cx Try.J23 Bool where
  nt := 150
  rvs := [.tmp 12]
  mh := []
  res := fun y => [.one (.c (.bool y))]
  outs := fun y => []
  path := fun
    | .s0 _ _ _ _ _ _ => [1, 1, 1, 1, 1]
  sig := fun
    | .s0 _ _ _ _ _ _ => [1, 2, 4, 5, 6, 13]
  snap := fun
    | .s0 now_t1 token_t2 failure_t4 seed_t5 a_t6 b_t13 => ⟨[(1, .one (.c (.int .i64 now_t1))), (2, .one (.c (.int .i64 token_t2))), (4, .one (.c (.str failure_t4))), (5, .one (.c (.int .i64 seed_t5))), (6, .one (.ptr 0 1 0)), (13, .one (.ptr 1 1 0))], [((0, 1), .box ((GAct.cs a_t6).map A.c)), ((1, 1), .box (((((((GAct.cs b_t13).map A.c).set 6 (.own 2 1)).set 7 (.own 3 1)).set 17 (.own 4 1)).set 29 (.own 5 1)).set 30 (.own 6 1))), ((2, 1), .arr 25 5 (E.GVal.L b_t13.Data.Items)), ((3, 1), .arr 9 1 (E.str.L b_t13.Data.Keys)), ((4, 1), .arr 9 1 (E.str.L b_t13.Opts.Fatal)), ((5, 1), .arr 25 5 (E.GVal.L b_t13.Details.Items)), ((6, 1), .arr 9 1 (E.str.L b_t13.Details.Keys))]⟩
noncomputable def Try.a23 (a_0 : GAct) (now_1 : Int) (token_2 : Int) (other_3 : Int) (failure_4 : ByteArray) (seed_5 : Int) : Cert Try.prog Try.J23 Bool :=
    .call Try.m88 a_0 fun r1 =>
    .ite 24 (!r1)
    (.call Try.m89 () fun r2 =>
    .ret r2)
    (.ite 28 (decide (6000 < (failure_4.size : Int)))
    (.call Try.m89 () fun r3 =>
    .ret r3)
    (.call Try.m96 (a_0, now_1, token_2) fun r4 =>
    .ite 38 (r4.2 != 0)
    (.call Try.m89 () fun r5 =>
    .ret r5)
    (.call Try.m97 (r4.1, token_2) fun r6 =>
    .ite 44 (r6 != 0)
    (.ret false)
    (.call Try.m97 (r4.1, other_3) fun r7 =>
    .ite 49 (r7 != 0)
    (.ite 55 (other_3 == token_2)
    (.ret false)
    (.call Try.m97 (r4.1, other_3) fun r8 =>
    .ite 60 (r8 == 0)
    (.ite 66 (other_3 != token_2)
    (.ret false)
    (.ite 71 (decide (now_1 < a_0.Due))
    (.ret false)
    (.jump (.s0 now_1 token_2 failure_4 seed_5 a_0 r4.1) [(6000, 1), (13000, 1), (34006, 1), (34007, 1), (34017, 1), (34029, 1), (34030, 1)])))
    (.ite 71 (decide (now_1 < a_0.Due))
    (.ret false)
    (.jump (.s0 now_1 token_2 failure_4 seed_5 a_0 r4.1) [(6000, 1), (13000, 1), (34006, 1), (34007, 1), (34017, 1), (34029, 1), (34030, 1)]))))
    (.call Try.m97 (r4.1, other_3) fun r9 =>
    .ite 60 (r9 == 0)
    (.ite 66 (other_3 != token_2)
    (.ret false)
    (.ite 71 (decide (now_1 < a_0.Due))
    (.ret false)
    (.jump (.s0 now_1 token_2 failure_4 seed_5 a_0 r4.1) [(6000, 1), (13000, 1), (34006, 1), (34007, 1), (34017, 1), (34029, 1), (34030, 1)])))
    (.ite 71 (decide (now_1 < a_0.Due))
    (.ret false)
    (.jump (.s0 now_1 token_2 failure_4 seed_5 a_0 r4.1) [(6000, 1), (13000, 1), (34006, 1), (34007, 1), (34017, 1), (34029, 1), (34030, 1)])))))))
noncomputable def Try.c23 : Try.J23 → Cert Try.prog Try.J23 Bool
  | .s0 now_t1 token_t2 failure_t4 seed_t5 a_t6 b_t13 =>
    .call Try.m90 (b_t13, now_t1, failure_t4, seed_t5) fun r10 =>
    .ite 82 (!r10.2.Retry)
    (.ite 86 (r10.2.Kind == 10)
    (.call Try.m94 (b_t13, r10.1) fun r11 =>
    .ite 91 r11
    (.call Try.m89 () fun r12 =>
    .ret r12)
    (.ret false))
    (.ret false))
    (.call Try.m96 (r10.1, r10.1.Due, token_t2) fun r13 =>
    .call Try.m96 (r10.1, (IntKind.i64.wrap (r10.1.Due - 1)), token_t2) fun r14 =>
    .call Try.m97 (r10.1, token_t2) fun r15 =>
    .ite 115 (r15 == 24)
    (.call Try.m97 (r10.1, 0) fun r16 =>
    .ite 120 (r16 == 24)
    (.ite 128 (r10.1.Attempt == (IntKind.i64.wrap (b_t13.Attempt + 1)))
    (.ite 134 (decide (now_t1 ≤ r10.1.Due))
    (.ite 138 (r13.2 == 0)
    (.ite 142 (r14.2 != 0)
    (.ite 147 (!a_t6.Cancel)
    (.call Try.m89 () fun r17 =>
    .ret r17)
    (.ret false))
    (.ret false))
    (.ret false))
    (.ret false))
    (.ret false))
    (.ret false))
    (.ret false))
theorem Try.h23 (a_0 : GAct) (now_1 : Int) (token_2 : Int) (other_3 : Int) (failure_4 : ByteArray) (seed_5 : Int) : execC Try.prog Try.x23 Try.b23 [] (topC Try.prog Try.x23) (Try.a23 a_0 now_1 token_2 other_3 failure_4 seed_5) (ES.init [.val (.agg ((GAct.cs a_0).map R.c)), .val (.one (.c (.int .i64 now_1))), .val (.one (.c (.int .i64 token_2))), .val (.one (.c (.int .i64 other_3))), .val (.one (.c (.str failure_4))), .val (.one (.c (.int .i64 seed_5)))]) :=
  of_triv (rs := Try.x23.rs) (snap := Try.x23.snap) (c := Try.a23 a_0 now_1 token_2 other_3 failure_4 seed_5) (by kernel_rfl)
theorem Try.g23 : ∀ j, chkAt Try.prog Try.x23 Try.b23 (Try.x23.path j) (Try.c23 j) (Try.x23.snap j).es
  | .s0 now_t1 token_t2 failure_t4 seed_t5 a_t6 b_t13 => of_triv (rs := Try.x23.rs) (snap := Try.x23.snap) (c := Try.c23 (.s0 now_t1 token_t2 failure_t4 seed_t5 a_t6 b_t13)) (by kernel_rfl)
noncomputable def Try.m23 : Mir Try.prog 23 (GAct × Int × Int × Int × ByteArray × Int) Bool where
  fs := [.agg (List.replicate 32 none), .one none, .one none, .one none, .one none, .one none]
  ga := fun x => [.val (.agg ((GAct.cs x.1).map R.c)), .val (.one (.c (.int .i64 x.2.1))), .val (.one (.c (.int .i64 x.2.2.1))), .val (.one (.c (.int .i64 x.2.2.2.1))), .val (.one (.c (.str x.2.2.2.2.1))), .val (.one (.c (.int .i64 x.2.2.2.2.2)))]
  caps := fun x => []
  res := Try.x23.res
  outs := Try.x23.outs
  R := fun x y => Runs (Try.a23 x.1 x.2.1 x.2.2.1 x.2.2.2.1 x.2.2.2.2.1 x.2.2.2.2.2) (KOf (fun j => Ev (Try.c23) j y) y)
  ok := fun x y h => sys_ok (cx := Try.x23) (body := Try.b23) Try.follow Try.func23 (by kernel_rfl) (by kernel_rfl) (by kernel_rfl) (by kernel_rfl) _ (Nat.le_of_ble_eq_true rfl) (by kernel_rfl) _ (Try.h23 x.1 x.2.1 x.2.2.1 x.2.2.2.1 x.2.2.2.2.1 x.2.2.2.2.2) (Try.g23) y h
  flat := true
  hflat := fun _ _ => flatE rfl
end Go.Proofs
