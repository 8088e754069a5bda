/- Texts AvZQ AvZR AvZ6. -/
import Derived.Test.YtlgnflbekdldnaaGreatDoorAvK37
set_option linter.unusedVariables false
set_option linter.unusedSimpArgs false
set_option linter.unusedSectionVars false
section
set_option maxRecDepth 100000
set_option maxHeartbeats 2000000
namespace Go.Proofs
namespace Tryz
open Go Go.AV
abbrev Clo70 : Type := Clo prog (GAct × GAct) Bool [.agg (List.replicate 32 none), .agg (List.replicate 32 none)] (fun x => [.val (.agg ((GAct.cs x.1).map R.c)), .val (.agg ((GAct.cs x.2).map R.c))]) (fun y => [.one (.c (.bool y))])
noncomputable def clo70 (c : Clo70) := Clo.mir c true (fun _ _ => flatE rfl)
inductive J84 where
| s0 (s2_t1 : List GAct) (eq_t2 : Clo70) (t15 : List GAct) (t16 : Int) (t17 : Int)
noncomputable def b84 : Code := f84.body.getD .skip
noncomputable def x84 : Cx J84 Bool where
  nt := 32
  rvs := [.tmp 6]
  mh := []
  res := fun y => [.one (.c (.bool y))]
  outs := fun y => []
  path := fun
    | .s0 _ _ _ _ _ => [0, 1, 0, 1, 1]
  sig := fun
    | .s0 _ _ _ _ _ => [1, 2, 15, 16, 17]
  snap := fun
    | .s0 s2_t1 eq_t2 t15 t16 t17 => ⟨[(1, .one (.c (.sl (E.GAct.L s2_t1)))), (2, .one (.c (.fn eq_t2.f eq_t2.caps))), (15, .one (.c (.sl (E.GAct.L t15)))), (16, .one (.c (.int .i64 t16))), (17, .one (.c (.int .i64 t17)))], []⟩
noncomputable def a84 (s1_0 : List GAct) (s2_1 : List GAct) (eq_2 : Clo70) : Cert prog J84 Bool :=
 .len E.GAct s1_0 <|
 .len E.GAct s2_1 <|
 .ite 14 ((s1_0.length : Int) != (s2_1.length : Int))
 (.ret false)
 (.len E.GAct s1_0 <|
 .jump (.s0 s2_1 eq_2 s1_0 (s1_0.length : Int) 0) [])
noncomputable def c84 : J84 → Cert prog J84 Bool
| .s0 s2_t1 eq_t2 t15 t16 t17 =>
 .ite 18 (decide (t17 < t16))
 (.elem E.GAct t15 t17 fun a1 =>
 .elem E.GAct s2_t1 t17 fun a2 =>
 .call (clo70 eq_t2) (a1, a2) fun r3 =>
 .ite 30 (!r3)
 (.ret false)
 (.jump (.s0 s2_t1 eq_t2 t15 t16 (IntKind.i64.wrap (t17 + 1))) []))
 (.ret true)
theorem h84 (s1_0 : List GAct) (s2_1 : List GAct) (eq_2 : Clo70) : tp prog x84 b84 (a84 s1_0 s2_1 eq_2) (ES.init [.val (.one (.c (.sl (E.GAct.L s1_0)))), .val (.one (.c (.sl (E.GAct.L s2_1)))), .val (.one (.c (.fn eq_2.f eq_2.caps)))]) :=
  of_triv (rs := x84.rs) (snap := x84.snap) (c := a84 s1_0 s2_1 eq_2) (by kernel_rfl)
theorem g84 : ∀ j, ck prog x84 b84 c84 j
| .s0 s2_t1 eq_t2 t15 t16 t17 => of_triv (rs := x84.rs) (snap := x84.snap) (c := c84 (.s0 s2_t1 eq_t2 t15 t16 t17)) (by kernel_rfl)
noncomputable def m84 : Mir prog 84 ((List GAct) × (List GAct) × Clo70) Bool where
  fs := [.one none, .one none, .one none]
  ga := fun x => [.val (.one (.c (.sl (E.GAct.L x.1)))), .val (.one (.c (.sl (E.GAct.L x.2.1)))), .val (.one (.c (.fn x.2.2.f x.2.2.caps)))]
  caps := fun x => []
  res := x84.res
  outs := x84.outs
  R := fun x y => Rn c84 (a84 x.1 x.2.1 x.2.2) y
  ok := fun x y h => sysA (cx := x84) follow func84 (h84 x.1 x.2.1 x.2.2) (g84) y h
  flat := true
  hflat := fun _ _ => flatE rfl
noncomputable def b85 : Code := f85.body.getD .skip
noncomputable def x85 : Cx Empty Bool where
  nt := 109
  rvs := [.tmp 4]
  mh := []
  res := fun y => [.one (.c (.bool y))]
  outs := fun y => []
  path := nofun
  sig := nofun
  snap := nofun
noncomputable def a85 (a_0 : GAct) (b_1 : GAct) : Cert prog Empty Bool :=
 .call m83 (a_0.Data, b_1.Data) fun r1 =>
 .ite 11 (!r1)
 (.ret false)
 (.call m83 (a_0.Details, b_1.Details) fun r2 =>
 .ite 19 (!r2)
 (.ret false)
 (.call m143 (a_0.Opts, b_1.Opts) fun r3 =>
 .ite 26 (!r3)
 (.ret false)
 (.ite 32 (a_0.Seq == b_1.Seq)
 (.ite 39 (a_0.Event == b_1.Event)
 (.ite 46 (strEq a_0.Name b_1.Name)
 (.ite 53 (a_0.State == b_1.State)
 (.ite 60 (a_0.Attempt == b_1.Attempt)
 (.ite 67 (a_0.Scheduled == b_1.Scheduled)
 (.ite 74 (a_0.Due == b_1.Due)
 (.ite 81 (a_0.Started == b_1.Started)
 (.ite 88 (a_0.LastBeat == b_1.LastBeat)
 (.ite 95 (a_0.Token == b_1.Token)
 (.ite 102 (a_0.Cancel == b_1.Cancel)
 (.ret (strEq a_0.Failure b_1.Failure))
 (.ret false))
 (.ret false))
 (.ret false))
 (.ret false))
 (.ret false))
 (.ret false))
 (.ret false))
 (.ret false))
 (.ret false))
 (.ret false))
 (.ret false))))
noncomputable def c85 : Empty → Cert prog Empty Bool := nofun
theorem h85 (a_0 : GAct) (b_1 : GAct) : tp prog x85 b85 (a85 a_0 b_1) (ES.init [.val (.agg ((GAct.cs a_0).map R.c)), .val (.agg ((GAct.cs b_1).map R.c))]) :=
  of_triv (rs := x85.rs) (snap := x85.snap) (c := a85 a_0 b_1) (by kernel_rfl)
theorem g85 : ∀ j, ck prog x85 b85 c85 j := nofun
noncomputable def m85 : Mir prog 85 (GAct × GAct) Bool where
  fs := [.agg (List.replicate 32 none), .agg (List.replicate 32 none)]
  ga := fun x => [.val (.agg ((GAct.cs x.1).map R.c)), .val (.agg ((GAct.cs x.2).map R.c))]
  caps := fun x => []
  res := x85.res
  outs := x85.outs
  R := fun x y => Rn c85 (a85 x.1 x.2) y
  ok := fun x y h => sysA (cx := x85) follow func85 (h85 x.1 x.2) (g85) y h
  flat := true
  hflat := fun _ _ => flatE rfl
inductive J86 where
| s0 (s1_t0 : List GTimer) (s2_t1 : List GTimer) (t12 : Int) (t13 : Int)
noncomputable def b86 : Code := f86.body.getD .skip
noncomputable def x86 : Cx J86 Bool where
  nt := 26
  rvs := [.tmp 4]
  mh := []
  res := fun y => [.one (.c (.bool y))]
  outs := fun y => []
  path := fun
    | .s0 _ _ _ _ => [0, 1, 0, 1, 1]
  sig := fun
    | .s0 _ _ _ _ => [0, 1, 12, 13]
  snap := fun
    | .s0 s1_t0 s2_t1 t12 t13 => ⟨[(0, .one (.c (.sl (E.GTimer.L s1_t0)))), (1, .one (.c (.sl (E.GTimer.L s2_t1)))), (12, .one (.c (.int .i64 t12))), (13, .one (.c (.int .i64 t13)))], []⟩
noncomputable def a86 (s1_0 : List GTimer) (s2_1 : List GTimer) : Cert prog J86 Bool :=
 .len E.GTimer s1_0 <|
 .len E.GTimer s2_1 <|
 .ite 10 ((s1_0.length : Int) != (s2_1.length : Int))
 (.ret false)
 (.len E.GTimer s1_0 <|
 .jump (.s0 s1_0 s2_1 (s1_0.length : Int) 0) [])
noncomputable def c86 : J86 → Cert prog J86 Bool
| .s0 s1_t0 s2_t1 t12 t13 =>
 .ite 14 (decide (t13 < t12))
 (.elem E.GTimer s1_t0 t13 fun a1 =>
 .elem E.GTimer s2_t1 t13 fun a2 =>
 .ite 24 (!((a1.Seq == a2.Seq) && ((a1.Event == a2.Event) && ((a1.Due == a2.Due) && true))))
 (.ret false)
 (.jump (.s0 s1_t0 s2_t1 t12 (IntKind.i64.wrap (t13 + 1))) []))
 (.ret true)
theorem h86 (s1_0 : List GTimer) (s2_1 : List GTimer) : tp prog x86 b86 (a86 s1_0 s2_1) (ES.init [.val (.one (.c (.sl (E.GTimer.L s1_0)))), .val (.one (.c (.sl (E.GTimer.L s2_1))))]) :=
  of_triv (rs := x86.rs) (snap := x86.snap) (c := a86 s1_0 s2_1) (by kernel_rfl)
theorem g86 : ∀ j, ck prog x86 b86 c86 j
| .s0 s1_t0 s2_t1 t12 t13 => of_triv (rs := x86.rs) (snap := x86.snap) (c := c86 (.s0 s1_t0 s2_t1 t12 t13)) (by kernel_rfl)
noncomputable def m86 : Mir prog 86 ((List GTimer) × (List GTimer)) Bool where
  fs := [.one none, .one none]
  ga := fun x => [.val (.one (.c (.sl (E.GTimer.L x.1)))), .val (.one (.c (.sl (E.GTimer.L x.2))))]
  caps := fun x => []
  res := x86.res
  outs := x86.outs
  R := fun x y => Rn c86 (a86 x.1 x.2) y
  ok := fun x y h => sysA (cx := x86) follow func86 (h86 x.1 x.2) (g86) y h
  flat := true
  hflat := fun _ _ => flatE rfl
inductive J87 where
| s0 (s1_t0 : List GKid) (s2_t1 : List GKid) (t12 : Int) (t13 : Int)
noncomputable def b87 : Code := f87.body.getD .skip
noncomputable def x87 : Cx J87 Bool where
  nt := 26
  rvs := [.tmp 4]
  mh := []
  res := fun y => [.one (.c (.bool y))]
  outs := fun y => []
  path := fun
    | .s0 _ _ _ _ => [0, 1, 0, 1, 1]
  sig := fun
    | .s0 _ _ _ _ => [0, 1, 12, 13]
  snap := fun
    | .s0 s1_t0 s2_t1 t12 t13 => ⟨[(0, .one (.c (.sl (E.GKid.L s1_t0)))), (1, .one (.c (.sl (E.GKid.L s2_t1)))), (12, .one (.c (.int .i64 t12))), (13, .one (.c (.int .i64 t13)))], []⟩
noncomputable def a87 (s1_0 : List GKid) (s2_1 : List GKid) : Cert prog J87 Bool :=
 .len E.GKid s1_0 <|
 .len E.GKid s2_1 <|
 .ite 10 ((s1_0.length : Int) != (s2_1.length : Int))
 (.ret false)
 (.len E.GKid s1_0 <|
 .jump (.s0 s1_0 s2_1 (s1_0.length : Int) 0) [])
noncomputable def c87 : J87 → Cert prog J87 Bool
| .s0 s1_t0 s2_t1 t12 t13 =>
 .ite 14 (decide (t13 < t12))
 (.elem E.GKid s1_t0 t13 fun a1 =>
 .elem E.GKid s2_t1 t13 fun a2 =>
 .ite 24 (!((a1.Seq == a2.Seq) && ((a1.Event == a2.Event) && ((strEq a1.Key a2.Key) && ((strEq a1.Name a2.Name) && ((a1.Policy == a2.Policy) && ((strEq a1.Run a2.Run) && true)))))))
 (.ret false)
 (.jump (.s0 s1_t0 s2_t1 t12 (IntKind.i64.wrap (t13 + 1))) []))
 (.ret true)
theorem h87 (s1_0 : List GKid) (s2_1 : List GKid) : tp prog x87 b87 (a87 s1_0 s2_1) (ES.init [.val (.one (.c (.sl (E.GKid.L s1_0)))), .val (.one (.c (.sl (E.GKid.L s2_1))))]) :=
  of_triv (rs := x87.rs) (snap := x87.snap) (c := a87 s1_0 s2_1) (by kernel_rfl)
theorem g87 : ∀ j, ck prog x87 b87 c87 j
| .s0 s1_t0 s2_t1 t12 t13 => of_triv (rs := x87.rs) (snap := x87.snap) (c := c87 (.s0 s1_t0 s2_t1 t12 t13)) (by kernel_rfl)
noncomputable def m87 : Mir prog 87 ((List GKid) × (List GKid)) Bool where
  fs := [.one none, .one none]
  ga := fun x => [.val (.one (.c (.sl (E.GKid.L x.1)))), .val (.one (.c (.sl (E.GKid.L x.2))))]
  caps := fun x => []
  res := x87.res
  outs := x87.outs
  R := fun x y => Rn c87 (a87 x.1 x.2) y
  ok := fun x y h => sysA (cx := x87) follow func87 (h87 x.1 x.2) (g87) y h
  flat := true
  hflat := fun _ _ => flatE rfl
inductive J88 where
| s0 (s1_t0 : List GSend) (s2_t1 : List GSend) (t12 : Int) (t13 : Int)
noncomputable def b88 : Code := f88.body.getD .skip
noncomputable def x88 : Cx J88 Bool where
  nt := 26
  rvs := [.tmp 4]
  mh := []
  res := fun y => [.one (.c (.bool y))]
  outs := fun y => []
  path := fun
    | .s0 _ _ _ _ => [0, 1, 0, 1, 1]
  sig := fun
    | .s0 _ _ _ _ => [0, 1, 12, 13]
  snap := fun
    | .s0 s1_t0 s2_t1 t12 t13 => ⟨[(0, .one (.c (.sl (E.GSend.L s1_t0)))), (1, .one (.c (.sl (E.GSend.L s2_t1)))), (12, .one (.c (.int .i64 t12))), (13, .one (.c (.int .i64 t13)))], []⟩
noncomputable def a88 (s1_0 : List GSend) (s2_1 : List GSend) : Cert prog J88 Bool :=
 .len E.GSend s1_0 <|
 .len E.GSend s2_1 <|
 .ite 10 ((s1_0.length : Int) != (s2_1.length : Int))
 (.ret false)
 (.len E.GSend s1_0 <|
 .jump (.s0 s1_0 s2_1 (s1_0.length : Int) 0) [])
noncomputable def c88 : J88 → Cert prog J88 Bool
| .s0 s1_t0 s2_t1 t12 t13 =>
 .ite 14 (decide (t13 < t12))
 (.elem E.GSend s1_t0 t13 fun a1 =>
 .elem E.GSend s2_t1 t13 fun a2 =>
 .ite 24 (!((a1.Seq == a2.Seq) && ((a1.Event == a2.Event) && ((strEq a1.Key a2.Key) && ((strEq a1.Name a2.Name) && true)))))
 (.ret false)
 (.jump (.s0 s1_t0 s2_t1 t12 (IntKind.i64.wrap (t13 + 1))) []))
 (.ret true)
theorem h88 (s1_0 : List GSend) (s2_1 : List GSend) : tp prog x88 b88 (a88 s1_0 s2_1) (ES.init [.val (.one (.c (.sl (E.GSend.L s1_0)))), .val (.one (.c (.sl (E.GSend.L s2_1))))]) :=
  of_triv (rs := x88.rs) (snap := x88.snap) (c := a88 s1_0 s2_1) (by kernel_rfl)
theorem g88 : ∀ j, ck prog x88 b88 c88 j
| .s0 s1_t0 s2_t1 t12 t13 => of_triv (rs := x88.rs) (snap := x88.snap) (c := c88 (.s0 s1_t0 s2_t1 t12 t13)) (by kernel_rfl)
noncomputable def m88 : Mir prog 88 ((List GSend) × (List GSend)) Bool where
  fs := [.one none, .one none]
  ga := fun x => [.val (.one (.c (.sl (E.GSend.L x.1)))), .val (.one (.c (.sl (E.GSend.L x.2))))]
  caps := fun x => []
  res := x88.res
  outs := x88.outs
  R := fun x y => Rn c88 (a88 x.1 x.2) y
  ok := fun x y h => sysA (cx := x88) follow func88 (h88 x.1 x.2) (g88) y h
  flat := true
  hflat := fun _ _ => flatE rfl
inductive J89 where
| s0 (s1_t0 : List GUpd) (s2_t1 : List GUpd) (t12 : Int) (t13 : Int)
noncomputable def b89 : Code := f89.body.getD .skip
noncomputable def x89 : Cx J89 Bool where
  nt := 26
  rvs := [.tmp 4]
  mh := []
  res := fun y => [.one (.c (.bool y))]
  outs := fun y => []
  path := fun
    | .s0 _ _ _ _ => [0, 1, 0, 1, 1]
  sig := fun
    | .s0 _ _ _ _ => [0, 1, 12, 13]
  snap := fun
    | .s0 s1_t0 s2_t1 t12 t13 => ⟨[(0, .one (.c (.sl (E.GUpd.L s1_t0)))), (1, .one (.c (.sl (E.GUpd.L s2_t1)))), (12, .one (.c (.int .i64 t12))), (13, .one (.c (.int .i64 t13)))], []⟩
noncomputable def a89 (s1_0 : List GUpd) (s2_1 : List GUpd) : Cert prog J89 Bool :=
 .len E.GUpd s1_0 <|
 .len E.GUpd s2_1 <|
 .ite 10 ((s1_0.length : Int) != (s2_1.length : Int))
 (.ret false)
 (.len E.GUpd s1_0 <|
 .jump (.s0 s1_0 s2_1 (s1_0.length : Int) 0) [])
noncomputable def c89 : J89 → Cert prog J89 Bool
| .s0 s1_t0 s2_t1 t12 t13 =>
 .ite 14 (decide (t13 < t12))
 (.elem E.GUpd s1_t0 t13 fun a1 =>
 .elem E.GUpd s2_t1 t13 fun a2 =>
 .ite 24 (!((strEq a1.Key a2.Key) && ((a1.Done == a2.Done) && true)))
 (.ret false)
 (.jump (.s0 s1_t0 s2_t1 t12 (IntKind.i64.wrap (t13 + 1))) []))
 (.ret true)
theorem h89 (s1_0 : List GUpd) (s2_1 : List GUpd) : tp prog x89 b89 (a89 s1_0 s2_1) (ES.init [.val (.one (.c (.sl (E.GUpd.L s1_0)))), .val (.one (.c (.sl (E.GUpd.L s2_1))))]) :=
  of_triv (rs := x89.rs) (snap := x89.snap) (c := a89 s1_0 s2_1) (by kernel_rfl)
theorem g89 : ∀ j, ck prog x89 b89 c89 j
| .s0 s1_t0 s2_t1 t12 t13 => of_triv (rs := x89.rs) (snap := x89.snap) (c := c89 (.s0 s1_t0 s2_t1 t12 t13)) (by kernel_rfl)
noncomputable def m89 : Mir prog 89 ((List GUpd) × (List GUpd)) Bool where
  fs := [.one none, .one none]
  ga := fun x => [.val (.one (.c (.sl (E.GUpd.L x.1)))), .val (.one (.c (.sl (E.GUpd.L x.2))))]
  caps := fun x => []
  res := x89.res
  outs := x89.outs
  R := fun x y => Rn c89 (a89 x.1 x.2) y
  ok := fun x y h => sysA (cx := x89) follow func89 (h89 x.1 x.2) (g89) y h
  flat := true
  hflat := fun _ _ => flatE rfl
noncomputable def b38 : Code := f38.body.getD .skip
noncomputable def x38 : Cx Empty Bool where
  nt := 114
  rvs := [.tmp 4]
  mh := []
  res := fun y => [.one (.c (.bool y))]
  outs := fun y => []
  path := nofun
  sig := nofun
  snap := nofun
noncomputable def a38 (a_0 : GPending) (b_1 : GPending) : Cert prog Empty Bool :=
 .ite 10 (a_0.Next != b_1.Next)
 (.ret false)
 (.ite 17 (a_0.Status != b_1.Status)
 (.ret false)
 (.ite 24 (a_0.Task != b_1.Task)
 (.ret false)
 (.ite 31 (a_0.TaskID != b_1.TaskID)
 (.ret false)
 (.ite 38 (a_0.Attempt != b_1.Attempt)
 (.ret false)
 (.ite 45 (a_0.Seq != b_1.Seq)
 (.ret false)
 (.ite 52 (!strEq a_0.Name b_1.Name)
 (.ret false)
 (.ite 58 (a_0.Cancel != b_1.Cancel)
 (.ret false)
 (.call m83 (a_0.Input, b_1.Input) fun r1 =>
 .ite 65 (!r1)
 (.ret false)
 (.call m83 (a_0.Attrs, b_1.Attrs) fun r2 =>
 .ite 73 (!r2)
 (.ret false)
 (.call m84 (a_0.Acts, b_1.Acts, (⟨85, [], fun a b => m85.R (a.1, a.2) b, fun a b h => m85.ok (a.1, a.2) b h⟩ : Clo70)) fun r3 =>
 .ite 80 (!r3)
 (.ret false)
 (.call m86 (a_0.Timers, b_1.Timers) fun r4 =>
 .ite 86 r4
 (.call m87 (a_0.Kids, b_1.Kids) fun r5 =>
 .ite 93 r5
 (.call m88 (a_0.Sends, b_1.Sends) fun r6 =>
 .ite 100 r6
 (.call m89 (a_0.Updates, b_1.Updates) fun r7 =>
 .ite 107 r7
 (.call m90 (a_0.Requests, b_1.Requests) fun r8 =>
 .ret r8)
 (.ret false))
 (.ret false))
 (.ret false))
 (.ret false))))))))))))
noncomputable def c38 : Empty → Cert prog Empty Bool := nofun
theorem h38 (a_0 : GPending) (b_1 : GPending) : tp prog x38 b38 (a38 a_0 b_1) (ES.init [.val (.agg ((GPending.cs a_0).map R.c)), .val (.agg ((GPending.cs b_1).map R.c))]) :=
  of_triv (rs := x38.rs) (snap := x38.snap) (c := a38 a_0 b_1) (by kernel_rfl)
theorem g38 : ∀ j, ck prog x38 b38 c38 j := nofun
noncomputable def m38 : Mir prog 38 (GPending × GPending) Bool where
  fs := [.agg (List.replicate 24 none), .agg (List.replicate 24 none)]
  ga := fun x => [.val (.agg ((GPending.cs x.1).map R.c)), .val (.agg ((GPending.cs x.2).map R.c))]
  caps := fun x => []
  res := x38.res
  outs := x38.outs
  R := fun x y => Rn c38 (a38 x.1 x.2) y
  ok := fun x y h => sysA (cx := x38) follow func38 (h38 x.1 x.2) (g38) y h
  flat := true
  hflat := fun _ _ => flatE rfl
end Tryz
end Go.Proofs
end
section
set_option maxRecDepth 100000
set_option maxHeartbeats 2000000
namespace Go.Proofs
namespace Tryz
open Go Go.AV
abbrev O64 (Q : (GVal × GVal) → Bool → Prop) : Prop := ∀ x y, Q x y → SpecG prog 64 ([.val (.agg ((GVal.cs x.1).map R.c)), .val (.agg ((GVal.cs x.2).map R.c))] ++ ([] : List C).map fun c => .val (.one (.c c))) [.one (.c (.bool y))] []
noncomputable def w64 (Q : (GVal × GVal) → Bool → Prop) (ok : O64 Q) : Mir prog 64 (GVal × GVal) Bool where
  fs := [.agg (List.replicate 5 none), .agg (List.replicate 5 none)]
  ga := fun x => [.val (.agg ((GVal.cs x.1).map R.c)), .val (.agg ((GVal.cs x.2).map R.c))]
  caps := fun x => []
  res := fun y => [.one (.c (.bool y))]
  outs := fun y => []
  R := Q
  ok := ok
  flat := true
  hflat := fun _ _ => flatE rfl
inductive J64 where
| s0 (a_t2 : GVal) (b_t3 : GVal) (i_t5 : Int)
| s1 (a_t2 : GVal) (b_t3 : GVal) (i_t6 : Int)
noncomputable def b64 : Code := f64.body.getD .skip
noncomputable def x64 : Cx J64 Bool where
  nt := 81
  rvs := [.tmp 4]
  mh := []
  res := fun y => [.one (.c (.bool y))]
  outs := fun y => []
  path := fun
    | .s0 _ _ _ => [0, 1, 0, 1, 1]
    | .s1 _ _ _ => [0, 1, 0, 1, 1, 1]
  sig := fun
    | .s0 _ _ _ => [2, 3, 5]
    | .s1 _ _ _ => [2, 3, 6]
  snap := fun
    | .s0 a_t2 b_t3 i_t5 => ⟨[(2, .one (.ptr 0 1 0)), (3, .one (.ptr 1 1 0)), (5, .one (.c (.int .i64 i_t5)))], [((0, 1), .box ((GVal.cs a_t2).map A.c)), ((1, 1), .box ((GVal.cs b_t3).map A.c))]⟩
    | .s1 a_t2 b_t3 i_t6 => ⟨[(2, .one (.ptr 0 1 0)), (3, .one (.ptr 1 1 0)), (6, .one (.c (.int .i64 i_t6)))], [((0, 1), .box ((GVal.cs a_t2).map A.c)), ((1, 1), .box ((GVal.cs b_t3).map A.c))]⟩
noncomputable def a64 (R64 : (GVal × GVal) → Bool → Prop) (ok64 : O64 R64) (a_0 : GVal) (b_1 : GVal) : Cert prog J64 Bool :=
 .ite 12 (a_0.Kind != b_1.Kind)
 (.ret false)
 (.ite 19 (a_0.Num != b_1.Num)
 (.ret false)
 (.ite 26 (!strEq a_0.Text b_1.Text)
 (.ret false)
 (.len E.GVal a_0.Items <|
 .len E.GVal b_1.Items <|
 .ite 35 ((a_0.Items.length : Int) != (b_1.Items.length : Int))
 (.ret false)
 (.len E.str a_0.Keys <|
 .len E.str b_1.Keys <|
 .ite 43 ((a_0.Keys.length : Int) != (b_1.Keys.length : Int))
 (.ret false)
 (.jump (.s0 a_0 b_1 0) [(2000, 1), (3000, 1)])))))
noncomputable def c64 (R64 : (GVal × GVal) → Bool → Prop) (ok64 : O64 R64) : J64 → Cert prog J64 Bool
| .s0 a_t2 b_t3 i_t5 =>
 .len E.str a_t2.Keys <|
 .ite 48 (decide (i_t5 < (a_t2.Keys.length : Int)))
 (.elem E.str a_t2.Keys i_t5 fun a1 =>
 .elem E.str b_t3.Keys i_t5 fun a2 =>
 .ite 61 (!strEq a1 a2)
 (.ret false)
 (.jump (.s0 a_t2 b_t3 (IntKind.i64.wrap (i_t5 + 1))) [(0, 1), (1, 1)]))
 (.jump (.s1 a_t2 b_t3 0) [(0, 1), (1, 1)])
| .s1 a_t2 b_t3 i_t6 =>
 .len E.GVal a_t2.Items <|
 .ite 66 (decide (i_t6 < (a_t2.Items.length : Int)))
 (.elem E.GVal a_t2.Items i_t6 fun a3 =>
 .elem E.GVal b_t3.Items i_t6 fun a4 =>
 .call (w64 R64 ok64) (a3, a4) fun r5 =>
 .ite 80 (!r5)
 (.ret false)
 (.jump (.s1 a_t2 b_t3 (IntKind.i64.wrap (i_t6 + 1))) [(0, 1), (1, 1)]))
 (.ret true)
theorem h64 (R64 : (GVal × GVal) → Bool → Prop) (ok64 : O64 R64) (a_0 : GVal) (b_1 : GVal) : tp prog x64 b64 (a64 R64 ok64 a_0 b_1) (ES.init [.val (.agg ((GVal.cs a_0).map R.c)), .val (.agg ((GVal.cs b_1).map R.c))]) :=
  of_triv (rs := x64.rs) (snap := x64.snap) (c := a64 R64 ok64 a_0 b_1) (by kernel_rfl)
theorem g64 (R64 : (GVal × GVal) → Bool → Prop) (ok64 : O64 R64) : ∀ j, chkAt prog x64 b64 (x64.path j) ((c64 R64 ok64) j) (x64.snap j).es
| .s0 a_t2 b_t3 i_t5 => of_triv (rs := x64.rs) (snap := x64.snap) (c := c64 R64 ok64 (.s0 a_t2 b_t3 i_t5)) (by kernel_rfl)
| .s1 a_t2 b_t3 i_t6 => of_triv (rs := x64.rs) (snap := x64.snap) (c := c64 R64 ok64 (.s1 a_t2 b_t3 i_t6)) (by kernel_rfl)
noncomputable def n64 : Nat → {Q : (GVal × GVal) → Bool → Prop // O64 Q}
| 0 => ⟨fun _ _ => False, fun _ _ h => h.elim⟩
| n + 1 => ⟨fun x y => Runs (a64 (n64 n).1 (n64 n).2 x.1 x.2) (KOf (fun j => Ev (c64 (n64 n).1 (n64 n).2) j y) y), fun x y h => sysA (cx := x64) follow func64 (h64 (n64 n).1 (n64 n).2 x.1 x.2) (g64 (n64 n).1 (n64 n).2) y h⟩
noncomputable def m64 : Mir prog 64 (GVal × GVal) Bool := w64 (fun x y => ∃ n, (n64 n).1 x y) (fun x y h => (n64 h.choose).2 x y h.choose_spec)
inductive J145 where
| s0 (a_t2 : GPolicy) (b_t3 : GPolicy) (i_t5 : Int)
noncomputable def b145 : Code := f145.body.getD .skip
noncomputable def x145 : Cx J145 Bool where
  nt := 92
  rvs := [.tmp 4]
  mh := []
  res := fun y => [.one (.c (.bool y))]
  outs := fun y => []
  path := fun
    | .s0 _ _ _ => [0, 1, 0, 1, 1, 1]
  sig := fun
    | .s0 _ _ _ => [2, 3, 5]
  snap := fun
    | .s0 a_t2 b_t3 i_t5 => ⟨[(2, .one (.ptr 0 1 0)), (3, .one (.ptr 1 1 0)), (5, .one (.c (.int .i64 i_t5)))], [((0, 1), .box ((GPolicy.cs a_t2).map A.c)), ((1, 1), .box ((GPolicy.cs b_t3).map A.c))]⟩
noncomputable def a145 (a_0 : GPolicy) (b_1 : GPolicy) : Cert prog J145 Bool :=
 .ite 11 (!strEq a_0.Queue b_1.Queue)
 (.ret false)
 (.ite 18 (a_0.ToStart != b_1.ToStart)
 (.ret false)
 (.ite 25 (a_0.ToClose != b_1.ToClose)
 (.ret false)
 (.ite 32 (a_0.Total != b_1.Total)
 (.ret false)
 (.ite 38 (a_0.Beat != b_1.Beat)
 (.ret false)
 (.ite 44 (a_0.First != b_1.First)
 (.ret false)
 (.ite 51 (a_0.Coef != b_1.Coef)
 (.ret false)
 (.ite 58 (a_0.Most != b_1.Most)
 (.ret false)
 (.ite 65 (a_0.Attempts != b_1.Attempts)
 (.ret false)
 (.len E.str a_0.Fatal <|
 .len E.str b_1.Fatal <|
 .ite 73 ((a_0.Fatal.length : Int) != (b_1.Fatal.length : Int))
 (.ret false)
 (.jump (.s0 a_0 b_1 0) [(2000, 1), (3000, 1)]))))))))))
noncomputable def c145 : J145 → Cert prog J145 Bool
| .s0 a_t2 b_t3 i_t5 =>
 .len E.str a_t2.Fatal <|
 .ite 78 (decide (i_t5 < (a_t2.Fatal.length : Int)))
 (.elem E.str a_t2.Fatal i_t5 fun a1 =>
 .elem E.str b_t3.Fatal i_t5 fun a2 =>
 .ite 91 (!strEq a1 a2)
 (.ret false)
 (.jump (.s0 a_t2 b_t3 (IntKind.i64.wrap (i_t5 + 1))) [(0, 1), (1, 1)]))
 (.ret true)
theorem h145 (a_0 : GPolicy) (b_1 : GPolicy) : tp prog x145 b145 (a145 a_0 b_1) (ES.init [.val (.agg ((GPolicy.cs a_0).map R.c)), .val (.agg ((GPolicy.cs b_1).map R.c))]) :=
  of_triv (rs := x145.rs) (snap := x145.snap) (c := a145 a_0 b_1) (by kernel_rfl)
theorem g145 : ∀ j, ck prog x145 b145 c145 j
| .s0 a_t2 b_t3 i_t5 => of_triv (rs := x145.rs) (snap := x145.snap) (c := c145 (.s0 a_t2 b_t3 i_t5)) (by kernel_rfl)
noncomputable def m145 : Mir prog 145 (GPolicy × GPolicy) Bool where
  fs := [.agg (List.replicate 10 none), .agg (List.replicate 10 none)]
  ga := fun x => [.val (.agg ((GPolicy.cs x.1).map R.c)), .val (.agg ((GPolicy.cs x.2).map R.c))]
  caps := fun x => []
  res := x145.res
  outs := x145.outs
  R := fun x y => Rn c145 (a145 x.1 x.2) y
  ok := fun x y h => sysA (cx := x145) follow func145 (h145 x.1 x.2) (g145) y h
  flat := true
  hflat := fun _ _ => flatE rfl
noncomputable def b95 : Code := f95.body.getD .skip
noncomputable def x95 : Cx Empty Bool where
  nt := 80
  rvs := [.tmp 4]
  mh := []
  res := fun y => [.one (.c (.bool y))]
  outs := fun y => []
  path := nofun
  sig := nofun
  snap := nofun
noncomputable def a95 (a_0 : GEvent) (b_1 : GEvent) : Cert prog Empty Bool :=
 .ite 10 (a_0.ID == b_1.ID)
 (.ite 17 (a_0.Kind == b_1.Kind)
 (.ite 24 (a_0.Time == b_1.Time)
 (.ite 31 (a_0.Seq == b_1.Seq)
 (.ite 38 (a_0.Ref == b_1.Ref)
 (.ite 45 (a_0.N == b_1.N)
 (.ite 52 (a_0.Code == b_1.Code)
 (.ite 59 (strEq a_0.Name b_1.Name)
 (.ite 66 (strEq a_0.Key b_1.Key)
 (.call m64 (a_0.Data, b_1.Data) fun r1 =>
 .ite 73 r1
 (.call m145 (a_0.Opts, b_1.Opts) fun r2 =>
 .ret r2)
 (.ret false))
 (.ret false))
 (.ret false))
 (.ret false))
 (.ret false))
 (.ret false))
 (.ret false))
 (.ret false))
 (.ret false))
 (.ret false)
noncomputable def c95 : Empty → Cert prog Empty Bool := nofun
theorem h95 (a_0 : GEvent) (b_1 : GEvent) : tp prog x95 b95 (a95 a_0 b_1) (ES.init [.val (.agg ((GEvent.cs a_0).map R.c)), .val (.agg ((GEvent.cs b_1).map R.c))]) :=
  of_triv (rs := x95.rs) (snap := x95.snap) (c := a95 a_0 b_1) (by kernel_rfl)
theorem g95 : ∀ j, ck prog x95 b95 c95 j := nofun
noncomputable def m95 : Mir prog 95 (GEvent × GEvent) Bool where
  fs := [.agg (List.replicate 24 none), .agg (List.replicate 24 none)]
  ga := fun x => [.val (.agg ((GEvent.cs x.1).map R.c)), .val (.agg ((GEvent.cs x.2).map R.c))]
  caps := fun x => []
  res := x95.res
  outs := x95.outs
  R := fun x y => Rn c95 (a95 x.1 x.2) y
  ok := fun x y h => sysA (cx := x95) follow func95 (h95 x.1 x.2) (g95) y h
  flat := true
  hflat := fun _ _ => flatE rfl
noncomputable def b80 : Code := f80.body.getD .skip
noncomputable def x80 : Cx Empty Bool where
  nt := 10
  rvs := [.tmp 4]
  mh := []
  res := fun y => [.one (.c (.bool y))]
  outs := fun y => []
  path := nofun
  sig := nofun
  snap := nofun
noncomputable def a80 (a_0 : GPolicy) (b_1 : GPolicy) : Cert prog Empty Bool :=
 .call m95 ((GEvent.mk 0 0 0 0 0 0 0 eB eB zV a_0), (GEvent.mk 0 0 0 0 0 0 0 eB eB zV b_1)) fun r1 =>
 .ret r1
noncomputable def c80 : Empty → Cert prog Empty Bool := nofun
theorem h80 (a_0 : GPolicy) (b_1 : GPolicy) : tp prog x80 b80 (a80 a_0 b_1) (ES.init [.val (.agg ((GPolicy.cs a_0).map R.c)), .val (.agg ((GPolicy.cs b_1).map R.c))]) :=
  of_triv (rs := x80.rs) (snap := x80.snap) (c := a80 a_0 b_1) (by kernel_rfl)
theorem g80 : ∀ j, ck prog x80 b80 c80 j := nofun
noncomputable def m80 : Mir prog 80 (GPolicy × GPolicy) Bool where
  fs := [.agg (List.replicate 10 none), .agg (List.replicate 10 none)]
  ga := fun x => [.val (.agg ((GPolicy.cs x.1).map R.c)), .val (.agg ((GPolicy.cs x.2).map R.c))]
  caps := fun x => []
  res := x80.res
  outs := x80.outs
  R := fun x y => Rn c80 (a80 x.1 x.2) y
  ok := fun x y h => sysA (cx := x80) follow func80 (h80 x.1 x.2) (g80) y h
  flat := true
  hflat := fun _ _ => flatE rfl
noncomputable def b33 : Code := f33.body.getD .skip
noncomputable def x33 : Cx Empty Bool where
  nt := 108
  rvs := [.tmp 4]
  mh := []
  res := fun y => [.one (.c (.bool y))]
  outs := fun y => []
  path := nofun
  sig := nofun
  snap := nofun
noncomputable def a33 (a_0 : GAct) (b_1 : GAct) : Cert prog Empty Bool :=
 .ite 10 (a_0.Seq == b_1.Seq)
 (.ite 17 (a_0.Event == b_1.Event)
 (.ite 24 (strEq a_0.Name b_1.Name)
 (.call m64 (a_0.Data, b_1.Data) fun r1 =>
 .ite 31 r1
 (.call m80 (a_0.Opts, b_1.Opts) fun r2 =>
 .ite 38 r2
 (.ite 45 (a_0.State == b_1.State)
 (.ite 52 (a_0.Attempt == b_1.Attempt)
 (.ite 59 (a_0.Scheduled == b_1.Scheduled)
 (.ite 66 (a_0.Due == b_1.Due)
 (.ite 73 (a_0.Started == b_1.Started)
 (.ite 80 (a_0.LastBeat == b_1.LastBeat)
 (.ite 87 (a_0.Token == b_1.Token)
 (.ite 94 (a_0.Cancel == b_1.Cancel)
 (.call m64 (a_0.Details, b_1.Details) fun r3 =>
 .ite 101 r3
 (.ret (strEq a_0.Failure b_1.Failure))
 (.ret false))
 (.ret false))
 (.ret false))
 (.ret false))
 (.ret false))
 (.ret false))
 (.ret false))
 (.ret false))
 (.ret false))
 (.ret false))
 (.ret false))
 (.ret false))
 (.ret false))
 (.ret false)
noncomputable def c33 : Empty → Cert prog Empty Bool := nofun
theorem h33 (a_0 : GAct) (b_1 : GAct) : tp prog x33 b33 (a33 a_0 b_1) (ES.init [.val (.agg ((GAct.cs a_0).map R.c)), .val (.agg ((GAct.cs b_1).map R.c))]) :=
  of_triv (rs := x33.rs) (snap := x33.snap) (c := a33 a_0 b_1) (by kernel_rfl)
theorem g33 : ∀ j, ck prog x33 b33 c33 j := nofun
noncomputable def m33 : Mir prog 33 (GAct × GAct) Bool where
  fs := [.agg (List.replicate 32 none), .agg (List.replicate 32 none)]
  ga := fun x => [.val (.agg ((GAct.cs x.1).map R.c)), .val (.agg ((GAct.cs x.2).map R.c))]
  caps := fun x => []
  res := x33.res
  outs := x33.outs
  R := fun x y => Rn c33 (a33 x.1 x.2) y
  ok := fun x y h => sysA (cx := x33) follow func33 (h33 x.1 x.2) (g33) y h
  flat := true
  hflat := fun _ _ => flatE rfl
inductive J65 where
| s0 (a_t2 : GPending) (b_t3 : GPending) (i_t5 : Int)
| s1 (a_t2 : GPending) (b_t3 : GPending) (i_t6 : Int)
| s2 (a_t2 : GPending) (b_t3 : GPending) (i_t7 : Int)
| s3 (a_t2 : GPending) (b_t3 : GPending) (i_t8 : Int)
| s4 (a_t2 : GPending) (b_t3 : GPending) (i_t9 : Int)
noncomputable def b65 : Code := f65.body.getD .skip
noncomputable def x65 : Cx J65 Bool where
  nt := 144
  rvs := [.tmp 4]
  mh := []
  res := fun y => [.one (.c (.bool y))]
  outs := fun y => []
  path := fun
    | .s0 _ _ _ => [0, 1, 0, 1, 1]
    | .s1 _ _ _ => [0, 1, 0, 1, 1, 1]
    | .s2 _ _ _ => [0, 1, 0, 1, 1, 1, 1]
    | .s3 _ _ _ => [0, 1, 0, 1, 1, 1, 1, 1]
    | .s4 _ _ _ => [0, 1, 0, 1, 1, 1, 1, 1, 1]
  sig := fun
    | .s0 _ _ _ => [2, 3, 5]
    | .s1 _ _ _ => [2, 3, 6]
    | .s2 _ _ _ => [2, 3, 7]
    | .s3 _ _ _ => [2, 3, 8]
    | .s4 _ _ _ => [2, 3, 9]
  snap := fun
    | .s0 a_t2 b_t3 i_t5 => ⟨[(2, .one (.ptr 0 1 0)), (3, .one (.ptr 1 1 0)), (5, .one (.c (.int .i64 i_t5)))], [((0, 1), .box ((GPending.cs a_t2).map A.c)), ((1, 1), .box ((GPending.cs b_t3).map A.c))]⟩
    | .s1 a_t2 b_t3 i_t6 => ⟨[(2, .one (.ptr 0 1 0)), (3, .one (.ptr 1 1 0)), (6, .one (.c (.int .i64 i_t6)))], [((0, 1), .box ((GPending.cs a_t2).map A.c)), ((1, 1), .box ((GPending.cs b_t3).map A.c))]⟩
    | .s2 a_t2 b_t3 i_t7 => ⟨[(2, .one (.ptr 0 1 0)), (3, .one (.ptr 1 1 0)), (7, .one (.c (.int .i64 i_t7)))], [((0, 1), .box ((GPending.cs a_t2).map A.c)), ((1, 1), .box ((GPending.cs b_t3).map A.c))]⟩
    | .s3 a_t2 b_t3 i_t8 => ⟨[(2, .one (.ptr 0 1 0)), (3, .one (.ptr 1 1 0)), (8, .one (.c (.int .i64 i_t8)))], [((0, 1), .box ((GPending.cs a_t2).map A.c)), ((1, 1), .box ((GPending.cs b_t3).map A.c))]⟩
    | .s4 a_t2 b_t3 i_t9 => ⟨[(2, .one (.ptr 0 1 0)), (3, .one (.ptr 1 1 0)), (9, .one (.c (.int .i64 i_t9)))], [((0, 1), .box ((GPending.cs a_t2).map A.c)), ((1, 1), .box ((GPending.cs b_t3).map A.c))]⟩
noncomputable def a65 (a_0 : GPending) (b_1 : GPending) : Cert prog J65 Bool :=
 .len E.GAct a_0.Acts <|
 .len E.GAct b_1.Acts <|
 .ite 17 ((a_0.Acts.length : Int) != (b_1.Acts.length : Int))
 (.ret false)
 (.len E.GTimer a_0.Timers <|
 .len E.GTimer b_1.Timers <|
 .ite 26 ((a_0.Timers.length : Int) != (b_1.Timers.length : Int))
 (.ret false)
 (.len E.GKid a_0.Kids <|
 .len E.GKid b_1.Kids <|
 .ite 35 ((a_0.Kids.length : Int) != (b_1.Kids.length : Int))
 (.ret false)
 (.len E.GSend a_0.Sends <|
 .len E.GSend b_1.Sends <|
 .ite 44 ((a_0.Sends.length : Int) != (b_1.Sends.length : Int))
 (.ret false)
 (.len E.GUpd a_0.Updates <|
 .len E.GUpd b_1.Updates <|
 .ite 52 ((a_0.Updates.length : Int) != (b_1.Updates.length : Int))
 (.ret false)
 (.jump (.s0 a_0 b_1 0) [(2000, 1), (3000, 1)])))))
noncomputable def c65 : J65 → Cert prog J65 Bool
| .s0 a_t2 b_t3 i_t5 =>
 .len E.GAct a_t2.Acts <|
 .ite 57 (decide (i_t5 < (a_t2.Acts.length : Int)))
 (.elem E.GAct a_t2.Acts i_t5 fun a1 =>
 .elem E.GAct b_t3.Acts i_t5 fun a2 =>
 .call m33 (a1, a2) fun r3 =>
 .ite 71 (!r3)
 (.ret false)
 (.jump (.s0 a_t2 b_t3 (IntKind.i64.wrap (i_t5 + 1))) [(0, 1), (1, 1)]))
 (.jump (.s1 a_t2 b_t3 0) [(0, 1), (1, 1)])
| .s1 a_t2 b_t3 i_t6 =>
 .len E.GTimer a_t2.Timers <|
 .ite 76 (decide (i_t6 < (a_t2.Timers.length : Int)))
 (.elem E.GTimer a_t2.Timers i_t6 fun a4 =>
 .elem E.GTimer b_t3.Timers i_t6 fun a5 =>
 .ite 89 (!((a4.Seq == a5.Seq) && ((a4.Event == a5.Event) && ((a4.Due == a5.Due) && true))))
 (.ret false)
 (.jump (.s1 a_t2 b_t3 (IntKind.i64.wrap (i_t6 + 1))) [(0, 1), (1, 1)]))
 (.jump (.s2 a_t2 b_t3 0) [(0, 1), (1, 1)])
| .s2 a_t2 b_t3 i_t7 =>
 .len E.GKid a_t2.Kids <|
 .ite 94 (decide (i_t7 < (a_t2.Kids.length : Int)))
 (.elem E.GKid a_t2.Kids i_t7 fun a6 =>
 .elem E.GKid b_t3.Kids i_t7 fun a7 =>
 .ite 107 (!((a6.Seq == a7.Seq) && ((a6.Event == a7.Event) && ((strEq a6.Key a7.Key) && ((strEq a6.Name a7.Name) && ((a6.Policy == a7.Policy) && ((strEq a6.Run a7.Run) && true)))))))
 (.ret false)
 (.jump (.s2 a_t2 b_t3 (IntKind.i64.wrap (i_t7 + 1))) [(0, 1), (1, 1)]))
 (.jump (.s3 a_t2 b_t3 0) [(0, 1), (1, 1)])
| .s3 a_t2 b_t3 i_t8 =>
 .len E.GSend a_t2.Sends <|
 .ite 112 (decide (i_t8 < (a_t2.Sends.length : Int)))
 (.elem E.GSend a_t2.Sends i_t8 fun a8 =>
 .elem E.GSend b_t3.Sends i_t8 fun a9 =>
 .ite 125 (!((a8.Seq == a9.Seq) && ((a8.Event == a9.Event) && ((strEq a8.Key a9.Key) && ((strEq a8.Name a9.Name) && true)))))
 (.ret false)
 (.jump (.s3 a_t2 b_t3 (IntKind.i64.wrap (i_t8 + 1))) [(0, 1), (1, 1)]))
 (.jump (.s4 a_t2 b_t3 0) [(0, 1), (1, 1)])
| .s4 a_t2 b_t3 i_t9 =>
 .len E.GUpd a_t2.Updates <|
 .ite 130 (decide (i_t9 < (a_t2.Updates.length : Int)))
 (.elem E.GUpd a_t2.Updates i_t9 fun a10 =>
 .elem E.GUpd b_t3.Updates i_t9 fun a11 =>
 .ite 143 (!((strEq a10.Key a11.Key) && ((a10.Done == a11.Done) && true)))
 (.ret false)
 (.jump (.s4 a_t2 b_t3 (IntKind.i64.wrap (i_t9 + 1))) [(0, 1), (1, 1)]))
 (.ret true)
theorem h65 (a_0 : GPending) (b_1 : GPending) : tp prog x65 b65 (a65 a_0 b_1) (ES.init [.val (.agg ((GPending.cs a_0).map R.c)), .val (.agg ((GPending.cs b_1).map R.c))]) :=
  of_triv (rs := x65.rs) (snap := x65.snap) (c := a65 a_0 b_1) (by kernel_rfl)
theorem g65 : ∀ j, ck prog x65 b65 c65 j
| .s0 a_t2 b_t3 i_t5 => of_triv (rs := x65.rs) (snap := x65.snap) (c := c65 (.s0 a_t2 b_t3 i_t5)) (by kernel_rfl)
| .s1 a_t2 b_t3 i_t6 => of_triv (rs := x65.rs) (snap := x65.snap) (c := c65 (.s1 a_t2 b_t3 i_t6)) (by kernel_rfl)
| .s2 a_t2 b_t3 i_t7 => of_triv (rs := x65.rs) (snap := x65.snap) (c := c65 (.s2 a_t2 b_t3 i_t7)) (by kernel_rfl)
| .s3 a_t2 b_t3 i_t8 => of_triv (rs := x65.rs) (snap := x65.snap) (c := c65 (.s3 a_t2 b_t3 i_t8)) (by kernel_rfl)
| .s4 a_t2 b_t3 i_t9 => of_triv (rs := x65.rs) (snap := x65.snap) (c := c65 (.s4 a_t2 b_t3 i_t9)) (by kernel_rfl)
noncomputable def m65 : Mir prog 65 (GPending × GPending) Bool where
  fs := [.agg (List.replicate 24 none), .agg (List.replicate 24 none)]
  ga := fun x => [.val (.agg ((GPending.cs x.1).map R.c)), .val (.agg ((GPending.cs x.2).map R.c))]
  caps := fun x => []
  res := x65.res
  outs := x65.outs
  R := fun x y => Rn c65 (a65 x.1 x.2) y
  ok := fun x y h => sysA (cx := x65) follow func65 (h65 x.1 x.2) (g65) y h
  flat := true
  hflat := fun _ _ => flatE rfl
inductive J66 where
| s0 (a_t0 : List ByteArray) (b_t1 : List ByteArray) (i_t5 : Int)
noncomputable def b66 : Code := f66.body.getD .skip
noncomputable def x66 : Cx J66 Bool where
  nt := 26
  rvs := [.tmp 4]
  mh := []
  res := fun y => [.one (.c (.bool y))]
  outs := fun y => []
  path := fun
    | .s0 _ _ _ => [0, 1, 0, 1, 1]
  sig := fun
    | .s0 _ _ _ => [0, 1, 5]
  snap := fun
    | .s0 a_t0 b_t1 i_t5 => ⟨[(0, .one (.c (.sl (E.str.L a_t0)))), (1, .one (.c (.sl (E.str.L b_t1)))), (5, .one (.c (.int .i64 i_t5)))], []⟩
noncomputable def a66 (a_0 : List ByteArray) (b_1 : List ByteArray) : Cert prog J66 Bool :=
 .len E.str a_0 <|
 .len E.str b_1 <|
 .ite 10 ((a_0.length : Int) != (b_1.length : Int))
 (.ret false)
 (.jump (.s0 a_0 b_1 0) [])
noncomputable def c66 : J66 → Cert prog J66 Bool
| .s0 a_t0 b_t1 i_t5 =>
 .len E.str a_t0 <|
 .ite 14 (decide (i_t5 < (a_t0.length : Int)))
 (.elem E.str a_t0 i_t5 fun a1 =>
 .elem E.str b_t1 i_t5 fun a2 =>
 .ite 25 (!strEq a1 a2)
 (.ret false)
 (.jump (.s0 a_t0 b_t1 (IntKind.i64.wrap (i_t5 + 1))) []))
 (.ret true)
theorem h66 (a_0 : List ByteArray) (b_1 : List ByteArray) : tp prog x66 b66 (a66 a_0 b_1) (ES.init [.val (.one (.c (.sl (E.str.L a_0)))), .val (.one (.c (.sl (E.str.L b_1))))]) :=
  of_triv (rs := x66.rs) (snap := x66.snap) (c := a66 a_0 b_1) (by kernel_rfl)
theorem g66 : ∀ j, ck prog x66 b66 c66 j
| .s0 a_t0 b_t1 i_t5 => of_triv (rs := x66.rs) (snap := x66.snap) (c := c66 (.s0 a_t0 b_t1 i_t5)) (by kernel_rfl)
noncomputable def m66 : Mir prog 66 ((List ByteArray) × (List ByteArray)) Bool where
  fs := [.one none, .one none]
  ga := fun x => [.val (.one (.c (.sl (E.str.L x.1)))), .val (.one (.c (.sl (E.str.L x.2))))]
  caps := fun x => []
  res := x66.res
  outs := x66.outs
  R := fun x y => Rn c66 (a66 x.1 x.2) y
  ok := fun x y h => sysA (cx := x66) follow func66 (h66 x.1 x.2) (g66) y h
  flat := true
  hflat := fun _ _ => flatE rfl
noncomputable def b18 : Code := f18.body.getD .skip
noncomputable def x18 : Cx Empty Bool where
  nt := 85
  rvs := [.tmp 4]
  mh := []
  res := fun y => [.one (.c (.bool y))]
  outs := fun y => []
  path := nofun
  sig := nofun
  snap := nofun
noncomputable def a18 (a_0 : GPending) (b_1 : GPending) : Cert prog Empty Bool :=
 .ite 10 (a_0.Next == b_1.Next)
 (.ite 17 (a_0.Status == b_1.Status)
 (.ite 24 (a_0.Task == b_1.Task)
 (.ite 31 (a_0.TaskID == b_1.TaskID)
 (.ite 38 (a_0.Attempt == b_1.Attempt)
 (.ite 45 (a_0.Seq == b_1.Seq)
 (.ite 52 (strEq a_0.Name b_1.Name)
 (.call m64 (a_0.Input, b_1.Input) fun r1 =>
 .ite 59 r1
 (.call m64 (a_0.Attrs, b_1.Attrs) fun r2 =>
 .ite 66 r2
 (.ite 73 (a_0.Cancel == b_1.Cancel)
 (.call m65 (a_0, b_1) fun r3 =>
 .ite 78 r3
 (.call m66 (a_0.Requests, b_1.Requests) fun r4 =>
 .ret r4)
 (.ret false))
 (.ret false))
 (.ret false))
 (.ret false))
 (.ret false))
 (.ret false))
 (.ret false))
 (.ret false))
 (.ret false))
 (.ret false))
 (.ret false)
noncomputable def c18 : Empty → Cert prog Empty Bool := nofun
theorem h18 (a_0 : GPending) (b_1 : GPending) : tp prog x18 b18 (a18 a_0 b_1) (ES.init [.val (.agg ((GPending.cs a_0).map R.c)), .val (.agg ((GPending.cs b_1).map R.c))]) :=
  of_triv (rs := x18.rs) (snap := x18.snap) (c := a18 a_0 b_1) (by kernel_rfl)
theorem g18 : ∀ j, ck prog x18 b18 c18 j := nofun
noncomputable def m18 : Mir prog 18 (GPending × GPending) Bool where
  fs := [.agg (List.replicate 24 none), .agg (List.replicate 24 none)]
  ga := fun x => [.val (.agg ((GPending.cs x.1).map R.c)), .val (.agg ((GPending.cs x.2).map R.c))]
  caps := fun x => []
  res := x18.res
  outs := x18.outs
  R := fun x y => Rn c18 (a18 x.1 x.2) y
  ok := fun x y h => sysA (cx := x18) follow func18 (h18 x.1 x.2) (g18) y h
  flat := true
  hflat := fun _ _ => flatE rfl
noncomputable def b114 : Code := f114.body.getD .skip
noncomputable def x114 : Cx Empty Bool where
  nt := 15
  rvs := [.tmp 6]
  mh := []
  res := fun y => [.one (.c (.bool y))]
  outs := fun y => []
  path := nofun
  sig := nofun
  snap := nofun
noncomputable def a114 (n_0 : Int) (low_1 : Int) (high_2 : Int) : Cert prog Empty Bool :=
 .ite 10 (decide (low_1 ≤ n_0))
 (.ret (decide (n_0 ≤ high_2)))
 (.ret false)
noncomputable def c114 : Empty → Cert prog Empty Bool := nofun
theorem h114 (n_0 : Int) (low_1 : Int) (high_2 : Int) : tp prog x114 b114 (a114 n_0 low_1 high_2) (ES.init [.val (.one (.c (.int .i64 n_0))), .val (.one (.c (.int .i64 low_1))), .val (.one (.c (.int .i64 high_2)))]) :=
  of_triv (rs := x114.rs) (snap := x114.snap) (c := a114 n_0 low_1 high_2) (by kernel_rfl)
theorem g114 : ∀ j, ck prog x114 b114 c114 j := nofun
noncomputable def m114 : Mir prog 114 (Int × Int × Int) Bool where
  fs := [.one none, .one none, .one none]
  ga := fun x => [.val (.one (.c (.int .i64 x.1))), .val (.one (.c (.int .i64 x.2.1))), .val (.one (.c (.int .i64 x.2.2)))]
  caps := fun x => []
  res := x114.res
  outs := x114.outs
  R := fun x y => Rn c114 (a114 x.1 x.2.1 x.2.2) y
  ok := fun x y h => sysA (cx := x114) follow func114 (h114 x.1 x.2.1 x.2.2) (g114) y h
  flat := true
  hflat := fun _ _ => flatE rfl
noncomputable def b156 : Code := f156.body.getD .skip
noncomputable def x156 : Cx Empty Bool where
  nt := 52
  rvs := [.tmp 4]
  mh := []
  res := fun y => [.one (.c (.bool y))]
  outs := fun y => []
  path := nofun
  sig := nofun
  snap := nofun
noncomputable def a156 (a_0 : GCommand) (b_1 : GCommand) : Cert prog Empty Bool :=
 .ite 10 (a_0.Kind == b_1.Kind)
 (.ite 17 (a_0.Seq == b_1.Seq)
 (.ite 24 (strEq a_0.Name b_1.Name)
 (.ite 31 (strEq a_0.Key b_1.Key)
 (.ite 38 (a_0.N == b_1.N)
 (.call m64 (a_0.Data, b_1.Data) fun r1 =>
 .ite 45 r1
 (.call m145 (a_0.Opts, b_1.Opts) fun r2 =>
 .ret r2)
 (.ret false))
 (.ret false))
 (.ret false))
 (.ret false))
 (.ret false))
 (.ret false)
noncomputable def c156 : Empty → Cert prog Empty Bool := nofun
theorem h156 (a_0 : GCommand) (b_1 : GCommand) : tp prog x156 b156 (a156 a_0 b_1) (ES.init [.val (.agg ((GCommand.cs a_0).map R.c)), .val (.agg ((GCommand.cs b_1).map R.c))]) :=
  of_triv (rs := x156.rs) (snap := x156.snap) (c := a156 a_0 b_1) (by kernel_rfl)
theorem g156 : ∀ j, ck prog x156 b156 c156 j := nofun
noncomputable def m156 : Mir prog 156 (GCommand × GCommand) Bool where
  fs := [.agg (List.replicate 20 none), .agg (List.replicate 20 none)]
  ga := fun x => [.val (.agg ((GCommand.cs x.1).map R.c)), .val (.agg ((GCommand.cs x.2).map R.c))]
  caps := fun x => []
  res := x156.res
  outs := x156.outs
  R := fun x y => Rn c156 (a156 x.1 x.2) y
  ok := fun x y h => sysA (cx := x156) follow func156 (h156 x.1 x.2) (g156) y h
  flat := true
  hflat := fun _ _ => flatE rfl
inductive J157 where
| s0 (c_t1 : GCommand) (t2 : GCommand)
| s1 (c_t1 : GCommand) (t2 : GCommand)
| s2 (c_t1 : GCommand) (t2 : GCommand)
| s3 (c_t1 : GCommand) (t2 : GCommand)
| s4 (c_t1 : GCommand) (t2 : GCommand)
noncomputable def b157 : Code := f157.body.getD .skip
noncomputable def x157 : Cx J157 GCommand where
  nt := 53
  rvs := [.cell 2 83]
  mh := []
  res := fun y => [.agg ((GCommand.cs y).map R.c)]
  outs := fun y => []
  path := fun
    | .s0 _ _ => [1, 1]
    | .s1 _ _ => [1, 1, 1]
    | .s2 _ _ => [1, 1, 1, 1]
    | .s3 _ _ => [1, 1, 1, 1, 1]
    | .s4 _ _ => [1, 1, 1, 1, 1, 1]
  sig := fun
    | .s0 _ _ => [1, 2]
    | .s1 _ _ => [1, 2]
    | .s2 _ _ => [1, 2]
    | .s3 _ _ => [1, 2]
    | .s4 _ _ => [1, 2]
  snap := fun
    | .s0 c_t1 t2 => ⟨[(1, .one (.ptr 0 1 0)), (2, .one (.ptr 1 1 0))], [((0, 1), .box ((GCommand.cs c_t1).map A.c)), ((1, 1), .box (((((GCommand.cs t2).map A.c).set 8 .nil).set 9 .nil).set 19 .nil))]⟩
    | .s1 c_t1 t2 => ⟨[(1, .one (.ptr 0 1 0)), (2, .one (.ptr 1 1 0))], [((0, 1), .box ((GCommand.cs c_t1).map A.c)), ((1, 1), .box (((((GCommand.cs t2).map A.c).set 8 .nil).set 9 .nil).set 19 .nil))]⟩
    | .s2 c_t1 t2 => ⟨[(1, .one (.ptr 0 1 0)), (2, .one (.ptr 1 1 0))], [((0, 1), .box ((GCommand.cs c_t1).map A.c)), ((1, 1), .box (((((GCommand.cs t2).map A.c).set 8 .nil).set 9 .nil).set 19 .nil))]⟩
    | .s3 c_t1 t2 => ⟨[(1, .one (.ptr 0 1 0)), (2, .one (.ptr 1 1 0))], [((0, 1), .box ((GCommand.cs c_t1).map A.c)), ((1, 1), .box (((((GCommand.cs t2).map A.c).set 8 .nil).set 9 .nil).set 19 .nil))]⟩
    | .s4 c_t1 t2 => ⟨[(1, .one (.ptr 0 1 0)), (2, .one (.ptr 1 1 0))], [((0, 1), .box ((GCommand.cs c_t1).map A.c)), ((1, 1), .box (((((GCommand.cs t2).map A.c).set 8 .nil).set 9 .nil).set 19 .nil))]⟩
noncomputable def a157 (c_0 : GCommand) : Cert prog J157 GCommand :=
 .ite 5 (c_0.Kind == 1)
 (.jump (.s0 (GCommand.mk c_0.Kind 0 c_0.Name c_0.Key c_0.N c_0.Data c_0.Opts) (GCommand.mk 0 0 eB eB 0 zV zO)) [(1000, 1), (2000, 1)])
 (.ite 5 (c_0.Kind == 2)
 (.jump (.s0 (GCommand.mk c_0.Kind 0 c_0.Name c_0.Key c_0.N c_0.Data c_0.Opts) (GCommand.mk 0 0 eB eB 0 zV zO)) [(1000, 1), (2000, 1)])
 (.ite 5 (c_0.Kind == 3)
 (.jump (.s0 (GCommand.mk c_0.Kind 0 c_0.Name c_0.Key c_0.N c_0.Data c_0.Opts) (GCommand.mk 0 0 eB eB 0 zV zO)) [(1000, 1), (2000, 1)])
 (.ite 5 (c_0.Kind == 4)
 (.jump (.s0 (GCommand.mk c_0.Kind 0 c_0.Name c_0.Key c_0.N c_0.Data c_0.Opts) (GCommand.mk 0 0 eB eB 0 zV zO)) [(1000, 1), (2000, 1)])
 (.ite 5 (c_0.Kind == 5)
 (.jump (.s0 (GCommand.mk c_0.Kind 0 c_0.Name c_0.Key c_0.N c_0.Data c_0.Opts) (GCommand.mk 0 0 eB eB 0 zV zO)) [(1000, 1), (2000, 1)])
 (.ite 5 (c_0.Kind == 6)
 (.jump (.s0 (GCommand.mk c_0.Kind 0 c_0.Name c_0.Key c_0.N c_0.Data c_0.Opts) (GCommand.mk 0 0 eB eB 0 zV zO)) [(1000, 1), (2000, 1)])
 (.jump (.s0 c_0 (GCommand.mk 0 0 eB eB 0 zV zO)) [(1000, 1), (2000, 1)]))))))
noncomputable def c157 : J157 → Cert prog J157 GCommand
| .s0 c_t1 t2 =>
 .ite 15 (c_t1.Kind == 1)
 (.jump (.s1 (GCommand.mk c_t1.Kind c_t1.Seq eB c_t1.Key c_t1.N c_t1.Data c_t1.Opts) (GCommand.mk t2.Kind t2.Seq t2.Name t2.Key t2.N (nV t2.Data) (GPolicy.mk t2.Opts.Queue t2.Opts.ToStart t2.Opts.ToClose t2.Opts.Total t2.Opts.Beat t2.Opts.First t2.Opts.Coef t2.Opts.Most t2.Opts.Attempts []))) [(0, 1), (1, 1)])
 (.ite 15 (c_t1.Kind == 5)
 (.jump (.s1 (GCommand.mk c_t1.Kind c_t1.Seq eB c_t1.Key c_t1.N c_t1.Data c_t1.Opts) (GCommand.mk t2.Kind t2.Seq t2.Name t2.Key t2.N (nV t2.Data) (GPolicy.mk t2.Opts.Queue t2.Opts.ToStart t2.Opts.ToClose t2.Opts.Total t2.Opts.Beat t2.Opts.First t2.Opts.Coef t2.Opts.Most t2.Opts.Attempts []))) [(0, 1), (1, 1)])
 (.ite 15 (c_t1.Kind == 6)
 (.jump (.s1 (GCommand.mk c_t1.Kind c_t1.Seq eB c_t1.Key c_t1.N c_t1.Data c_t1.Opts) (GCommand.mk t2.Kind t2.Seq t2.Name t2.Key t2.N (nV t2.Data) (GPolicy.mk t2.Opts.Queue t2.Opts.ToStart t2.Opts.ToClose t2.Opts.Total t2.Opts.Beat t2.Opts.First t2.Opts.Coef t2.Opts.Most t2.Opts.Attempts []))) [(0, 1), (1, 1)])
 (.ite 15 (c_t1.Kind == 7)
 (.jump (.s1 (GCommand.mk c_t1.Kind c_t1.Seq eB c_t1.Key c_t1.N c_t1.Data c_t1.Opts) (GCommand.mk t2.Kind t2.Seq t2.Name t2.Key t2.N (nV t2.Data) (GPolicy.mk t2.Opts.Queue t2.Opts.ToStart t2.Opts.ToClose t2.Opts.Total t2.Opts.Beat t2.Opts.First t2.Opts.Coef t2.Opts.Most t2.Opts.Attempts []))) [(0, 1), (1, 1)])
 (.ite 15 (c_t1.Kind == 8)
 (.jump (.s1 (GCommand.mk c_t1.Kind c_t1.Seq eB c_t1.Key c_t1.N c_t1.Data c_t1.Opts) (GCommand.mk t2.Kind t2.Seq t2.Name t2.Key t2.N (nV t2.Data) (GPolicy.mk t2.Opts.Queue t2.Opts.ToStart t2.Opts.ToClose t2.Opts.Total t2.Opts.Beat t2.Opts.First t2.Opts.Coef t2.Opts.Most t2.Opts.Attempts []))) [(0, 1), (1, 1)])
 (.ite 15 (c_t1.Kind == 12)
 (.jump (.s1 (GCommand.mk c_t1.Kind c_t1.Seq eB c_t1.Key c_t1.N c_t1.Data c_t1.Opts) (GCommand.mk t2.Kind t2.Seq t2.Name t2.Key t2.N (nV t2.Data) (GPolicy.mk t2.Opts.Queue t2.Opts.ToStart t2.Opts.ToClose t2.Opts.Total t2.Opts.Beat t2.Opts.First t2.Opts.Coef t2.Opts.Most t2.Opts.Attempts []))) [(0, 1), (1, 1)])
 (.jump (.s1 c_t1 (GCommand.mk t2.Kind t2.Seq t2.Name t2.Key t2.N (nV t2.Data) (GPolicy.mk t2.Opts.Queue t2.Opts.ToStart t2.Opts.ToClose t2.Opts.Total t2.Opts.Beat t2.Opts.First t2.Opts.Coef t2.Opts.Most t2.Opts.Attempts []))) [(0, 1), (1, 1)]))))))
| .s1 c_t1 t2 =>
 .ite 25 (c_t1.Kind == 5)
 (.jump (.s2 (GCommand.mk c_t1.Kind c_t1.Seq c_t1.Name eB c_t1.N c_t1.Data c_t1.Opts) (GCommand.mk t2.Kind t2.Seq t2.Name t2.Key t2.N (nV t2.Data) (GPolicy.mk t2.Opts.Queue t2.Opts.ToStart t2.Opts.ToClose t2.Opts.Total t2.Opts.Beat t2.Opts.First t2.Opts.Coef t2.Opts.Most t2.Opts.Attempts []))) [(0, 1), (1, 1)])
 (.ite 25 (c_t1.Kind == 6)
 (.jump (.s2 (GCommand.mk c_t1.Kind c_t1.Seq c_t1.Name eB c_t1.N c_t1.Data c_t1.Opts) (GCommand.mk t2.Kind t2.Seq t2.Name t2.Key t2.N (nV t2.Data) (GPolicy.mk t2.Opts.Queue t2.Opts.ToStart t2.Opts.ToClose t2.Opts.Total t2.Opts.Beat t2.Opts.First t2.Opts.Coef t2.Opts.Most t2.Opts.Attempts []))) [(0, 1), (1, 1)])
 (.ite 25 (c_t1.Kind == 8)
 (.jump (.s2 (GCommand.mk c_t1.Kind c_t1.Seq c_t1.Name eB c_t1.N c_t1.Data c_t1.Opts) (GCommand.mk t2.Kind t2.Seq t2.Name t2.Key t2.N (nV t2.Data) (GPolicy.mk t2.Opts.Queue t2.Opts.ToStart t2.Opts.ToClose t2.Opts.Total t2.Opts.Beat t2.Opts.First t2.Opts.Coef t2.Opts.Most t2.Opts.Attempts []))) [(0, 1), (1, 1)])
 (.ite 25 (c_t1.Kind == 9)
 (.jump (.s2 (GCommand.mk c_t1.Kind c_t1.Seq c_t1.Name eB c_t1.N c_t1.Data c_t1.Opts) (GCommand.mk t2.Kind t2.Seq t2.Name t2.Key t2.N (nV t2.Data) (GPolicy.mk t2.Opts.Queue t2.Opts.ToStart t2.Opts.ToClose t2.Opts.Total t2.Opts.Beat t2.Opts.First t2.Opts.Coef t2.Opts.Most t2.Opts.Attempts []))) [(0, 1), (1, 1)])
 (.jump (.s2 c_t1 (GCommand.mk t2.Kind t2.Seq t2.Name t2.Key t2.N (nV t2.Data) (GPolicy.mk t2.Opts.Queue t2.Opts.ToStart t2.Opts.ToClose t2.Opts.Total t2.Opts.Beat t2.Opts.First t2.Opts.Coef t2.Opts.Most t2.Opts.Attempts []))) [(0, 1), (1, 1)]))))
| .s2 c_t1 t2 =>
 .ite 33 (c_t1.Kind == 3)
 (.jump (.s3 (GCommand.mk c_t1.Kind c_t1.Seq c_t1.Name c_t1.Key 0 c_t1.Data c_t1.Opts) (GCommand.mk t2.Kind t2.Seq t2.Name t2.Key t2.N (nV t2.Data) (GPolicy.mk t2.Opts.Queue t2.Opts.ToStart t2.Opts.ToClose t2.Opts.Total t2.Opts.Beat t2.Opts.First t2.Opts.Coef t2.Opts.Most t2.Opts.Attempts []))) [(0, 1), (1, 1)])
 (.ite 33 (c_t1.Kind == 5)
 (.jump (.s3 (GCommand.mk c_t1.Kind c_t1.Seq c_t1.Name c_t1.Key 0 c_t1.Data c_t1.Opts) (GCommand.mk t2.Kind t2.Seq t2.Name t2.Key t2.N (nV t2.Data) (GPolicy.mk t2.Opts.Queue t2.Opts.ToStart t2.Opts.ToClose t2.Opts.Total t2.Opts.Beat t2.Opts.First t2.Opts.Coef t2.Opts.Most t2.Opts.Attempts []))) [(0, 1), (1, 1)])
 (.ite 33 (c_t1.Kind == 7)
 (.jump (.s3 (GCommand.mk c_t1.Kind c_t1.Seq c_t1.Name c_t1.Key 0 c_t1.Data c_t1.Opts) (GCommand.mk t2.Kind t2.Seq t2.Name t2.Key t2.N (nV t2.Data) (GPolicy.mk t2.Opts.Queue t2.Opts.ToStart t2.Opts.ToClose t2.Opts.Total t2.Opts.Beat t2.Opts.First t2.Opts.Coef t2.Opts.Most t2.Opts.Attempts []))) [(0, 1), (1, 1)])
 (.ite 33 (c_t1.Kind == 9)
 (.jump (.s3 (GCommand.mk c_t1.Kind c_t1.Seq c_t1.Name c_t1.Key 0 c_t1.Data c_t1.Opts) (GCommand.mk t2.Kind t2.Seq t2.Name t2.Key t2.N (nV t2.Data) (GPolicy.mk t2.Opts.Queue t2.Opts.ToStart t2.Opts.ToClose t2.Opts.Total t2.Opts.Beat t2.Opts.First t2.Opts.Coef t2.Opts.Most t2.Opts.Attempts []))) [(0, 1), (1, 1)])
 (.jump (.s3 c_t1 (GCommand.mk t2.Kind t2.Seq t2.Name t2.Key t2.N (nV t2.Data) (GPolicy.mk t2.Opts.Queue t2.Opts.ToStart t2.Opts.ToClose t2.Opts.Total t2.Opts.Beat t2.Opts.First t2.Opts.Coef t2.Opts.Most t2.Opts.Attempts []))) [(0, 1), (1, 1)]))))
| .s3 c_t1 t2 =>
 .ite 43 (c_t1.Kind == 2)
 (.jump (.s4 c_t1 (GCommand.mk t2.Kind t2.Seq t2.Name t2.Key t2.N (nV t2.Data) (GPolicy.mk t2.Opts.Queue t2.Opts.ToStart t2.Opts.ToClose t2.Opts.Total t2.Opts.Beat t2.Opts.First t2.Opts.Coef t2.Opts.Most t2.Opts.Attempts []))) [(0, 1), (1, 1)])
 (.ite 43 (c_t1.Kind == 3)
 (.jump (.s4 c_t1 (GCommand.mk t2.Kind t2.Seq t2.Name t2.Key t2.N (nV t2.Data) (GPolicy.mk t2.Opts.Queue t2.Opts.ToStart t2.Opts.ToClose t2.Opts.Total t2.Opts.Beat t2.Opts.First t2.Opts.Coef t2.Opts.Most t2.Opts.Attempts []))) [(0, 1), (1, 1)])
 (.ite 43 (c_t1.Kind == 4)
 (.jump (.s4 c_t1 (GCommand.mk t2.Kind t2.Seq t2.Name t2.Key t2.N (nV t2.Data) (GPolicy.mk t2.Opts.Queue t2.Opts.ToStart t2.Opts.ToClose t2.Opts.Total t2.Opts.Beat t2.Opts.First t2.Opts.Coef t2.Opts.Most t2.Opts.Attempts []))) [(0, 1), (1, 1)])
 (.adoptB 0 1 8 28 5 <|
 .frz 8998 2 <|
 .adoptB 0 1 9 9 1 <|
 .frz 9998 2 <|
 .jump (.s4 (GCommand.mk c_t1.Kind c_t1.Seq c_t1.Name c_t1.Key c_t1.N zV c_t1.Opts) (GCommand.mk t2.Kind t2.Seq t2.Name t2.Key t2.N (nV t2.Data) (GPolicy.mk t2.Opts.Queue t2.Opts.ToStart t2.Opts.ToClose t2.Opts.Total t2.Opts.Beat t2.Opts.First t2.Opts.Coef t2.Opts.Most t2.Opts.Attempts []))) [(0, 1), (1, 1)])))
| .s4 c_t1 t2 =>
 .ite 49 (c_t1.Kind == 1)
 (.ret (GCommand.mk c_t1.Kind c_t1.Seq c_t1.Name c_t1.Key c_t1.N c_t1.Data zO))
 (.ret c_t1)
theorem h157 (c_0 : GCommand) : tp prog x157 b157 (a157 c_0) (ES.init [.val (.agg ((GCommand.cs c_0).map R.c))]) :=
  of_triv (rs := x157.rs) (snap := x157.snap) (c := a157 c_0) (by kernel_rfl)
theorem g157 : ∀ j, ck prog x157 b157 c157 j
| .s0 c_t1 t2 => of_triv (rs := x157.rs) (snap := x157.snap) (c := c157 (.s0 c_t1 t2)) (by kernel_rfl)
| .s1 c_t1 t2 => of_triv (rs := x157.rs) (snap := x157.snap) (c := c157 (.s1 c_t1 t2)) (by kernel_rfl)
| .s2 c_t1 t2 => of_triv (rs := x157.rs) (snap := x157.snap) (c := c157 (.s2 c_t1 t2)) (by kernel_rfl)
| .s3 c_t1 t2 => of_triv (rs := x157.rs) (snap := x157.snap) (c := c157 (.s3 c_t1 t2)) (by kernel_rfl)
| .s4 c_t1 t2 => of_triv (rs := x157.rs) (snap := x157.snap) (c := c157 (.s4 c_t1 t2)) (by kernel_rfl)
noncomputable def m157 : Mir prog 157 GCommand GCommand where
  fs := [.agg (List.replicate 20 none)]
  ga := fun x => [.val (.agg ((GCommand.cs x).map R.c))]
  caps := fun x => []
  res := x157.res
  outs := x157.outs
  R := fun x y => Rn c157 (a157 x) y
  ok := fun x y h => sysA (cx := x157) follow func157 (h157 x) (g157) y h
  flat := false
  hflat := nofun
inductive J234 where
| s0 (keys_t0 : List ByteArray) (i_t3 : Int)
noncomputable def b234 : Code := f234.body.getD .skip
noncomputable def x234 : Cx J234 Bool where
  nt := 20
  rvs := [.tmp 2]
  mh := []
  res := fun y => [.one (.c (.bool y))]
  outs := fun y => []
  path := fun
    | .s0 _ _ => [0, 1, 0, 1]
  sig := fun
    | .s0 _ _ => [0, 3]
  snap := fun
    | .s0 keys_t0 i_t3 => ⟨[(0, .one (.c (.sl (E.str.L keys_t0)))), (3, .one (.c (.int .i64 i_t3)))], []⟩
noncomputable def a234 (keys_0 : List ByteArray) : Cert prog J234 Bool :=
 .jump (.s0 keys_0 1) []
noncomputable def c234 : J234 → Cert prog J234 Bool
| .s0 keys_t0 i_t3 =>
 .len E.str keys_t0 <|
 .ite 7 (decide (i_t3 < (keys_t0.length : Int)))
 (.elem E.str keys_t0 (IntKind.i64.wrap (i_t3 - 1)) fun a1 =>
 .elem E.str keys_t0 i_t3 fun a2 =>
 .ite 19 (!strLt a1 a2)
 (.ret false)
 (.jump (.s0 keys_t0 (IntKind.i64.wrap (i_t3 + 1))) []))
 (.ret true)
theorem h234 (keys_0 : List ByteArray) : tp prog x234 b234 (a234 keys_0) (ES.init [.val (.one (.c (.sl (E.str.L keys_0))))]) :=
  of_triv (rs := x234.rs) (snap := x234.snap) (c := a234 keys_0) (by kernel_rfl)
theorem g234 : ∀ j, ck prog x234 b234 c234 j
| .s0 keys_t0 i_t3 => of_triv (rs := x234.rs) (snap := x234.snap) (c := c234 (.s0 keys_t0 i_t3)) (by kernel_rfl)
noncomputable def m234 : Mir prog 234 (List ByteArray) Bool where
  fs := [.one none]
  ga := fun x => [.val (.one (.c (.sl (E.str.L x))))]
  caps := fun x => []
  res := x234.res
  outs := x234.outs
  R := fun x y => Rn c234 (a234 x) y
  ok := fun x y h => sysA (cx := x234) follow func234 (h234 x) (g234) y h
  flat := true
  hflat := fun _ _ => flatE rfl
abbrev O208 (Q : GVal → Bool → Prop) : Prop := ∀ x y, Q x y → SpecG prog 208 ([.val (.agg ((GVal.cs x).map R.c))] ++ ([] : List C).map fun c => .val (.one (.c c))) [.one (.c (.bool y))] []
noncomputable def w208 (Q : GVal → Bool → Prop) (ok : O208 Q) : Mir prog 208 GVal Bool where
  fs := [.agg (List.replicate 5 none)]
  ga := fun x => [.val (.agg ((GVal.cs x).map R.c))]
  caps := fun x => []
  res := fun y => [.one (.c (.bool y))]
  outs := fun y => []
  R := Q
  ok := ok
  flat := true
  hflat := fun _ _ => flatE rfl
inductive J208 where
| s0 (v_t1 : GVal) (i_t3 : Int)
noncomputable def b208 : Code := f208.body.getD .skip
noncomputable def x208 : Cx J208 Bool where
  nt := 165
  rvs := [.tmp 2]
  mh := []
  res := fun y => [.one (.c (.bool y))]
  outs := fun y => []
  path := fun
    | .s0 _ _ => [0, 1, 0, 1]
  sig := fun
    | .s0 _ _ => [1, 3]
  snap := fun
    | .s0 v_t1 i_t3 => ⟨[(1, .one (.ptr 0 1 0)), (3, .one (.c (.int .i64 i_t3)))], [((0, 1), .box ((GVal.cs v_t1).map A.c))]⟩
noncomputable def a208 (R208 : GVal → Bool → Prop) (ok208 : O208 R208) (v_0 : GVal) : Cert prog J208 Bool :=
 .jump (.s0 v_0 0) [(1000, 1)]
noncomputable def c208 (R208 : GVal → Bool → Prop) (ok208 : O208 R208) : J208 → Cert prog J208 Bool
| .s0 v_t1 i_t3 =>
 .len E.GVal v_t1.Items <|
 .ite 8 (decide (i_t3 < (v_t1.Items.length : Int)))
 (.elem E.GVal v_t1.Items i_t3 fun a1 =>
 .call (w208 R208 ok208) a1 fun r2 =>
 .ite 17 (!r2)
 (.ret false)
 (.jump (.s0 v_t1 (IntKind.i64.wrap (i_t3 + 1))) [(0, 1)]))
 (.ite 20 (v_t1.Kind == 0)
 (.ite 25 (v_t1.Num == 0)
 (.ite 30 (strEq v_t1.Text eB)
 (.len E.GVal v_t1.Items <|
 .ite 36 ((v_t1.Items.length : Int) == 0)
 (.len E.str v_t1.Keys <|
 .ret ((v_t1.Keys.length : Int) == 0))
 (.ret false))
 (.ret false))
 (.ret false))
 (.ite 42 (v_t1.Kind == 1)
 (.ite 47 (v_t1.Num == 0)
 (.ite 57 (strEq v_t1.Text eB)
 (.len E.GVal v_t1.Items <|
 .ite 63 ((v_t1.Items.length : Int) == 0)
 (.len E.str v_t1.Keys <|
 .ret ((v_t1.Keys.length : Int) == 0))
 (.ret false))
 (.ret false))
 (.ite 52 (v_t1.Num == 1)
 (.ite 57 (strEq v_t1.Text eB)
 (.len E.GVal v_t1.Items <|
 .ite 63 ((v_t1.Items.length : Int) == 0)
 (.len E.str v_t1.Keys <|
 .ret ((v_t1.Keys.length : Int) == 0))
 (.ret false))
 (.ret false))
 (.ret false)))
 (.ite 69 (v_t1.Kind == 2)
 (.ite 74 (strEq v_t1.Text eB)
 (.len E.GVal v_t1.Items <|
 .ite 80 ((v_t1.Items.length : Int) == 0)
 (.len E.str v_t1.Keys <|
 .ret ((v_t1.Keys.length : Int) == 0))
 (.ret false))
 (.ret false))
 (.ite 86 (v_t1.Kind == 3)
 (.ite 91 (v_t1.Num == 0)
 (.len E.GVal v_t1.Items <|
 .ite 97 ((v_t1.Items.length : Int) == 0)
 (.len E.str v_t1.Keys <|
 .ret ((v_t1.Keys.length : Int) == 0))
 (.ret false))
 (.ret false))
 (.ite 103 (v_t1.Kind == 4)
 (.ite 108 (v_t1.Num == 0)
 (.ite 113 (strEq v_t1.Text eB)
 (.len E.str v_t1.Keys <|
 .ret ((v_t1.Keys.length : Int) == 0))
 (.ret false))
 (.ret false))
 (.ite 119 (v_t1.Kind == 5)
 (.ite 124 (v_t1.Num == 0)
 (.ite 129 (strEq v_t1.Text eB)
 (.len E.str v_t1.Keys <|
 .len E.GVal v_t1.Items <|
 .ite 138 ((v_t1.Keys.length : Int) == (v_t1.Items.length : Int))
 (.call m234 v_t1.Keys fun r3 =>
 .ret r3)
 (.ret false))
 (.ret false))
 (.ret false))
 (.ite 143 (v_t1.Kind == 6)
 (.ite 148 (decide (0 ≤ v_t1.Num))
 (.ite 153 (strEq v_t1.Text eB)
 (.len E.GVal v_t1.Items <|
 .ite 159 ((v_t1.Items.length : Int) == 0)
 (.len E.str v_t1.Keys <|
 .ret ((v_t1.Keys.length : Int) == 0))
 (.ret false))
 (.ret false))
 (.ret false))
 (.ret false))))))))
theorem h208 (R208 : GVal → Bool → Prop) (ok208 : O208 R208) (v_0 : GVal) : tp prog x208 b208 (a208 R208 ok208 v_0) (ES.init [.val (.agg ((GVal.cs v_0).map R.c))]) :=
  of_triv (rs := x208.rs) (snap := x208.snap) (c := a208 R208 ok208 v_0) (by kernel_rfl)
theorem g208 (R208 : GVal → Bool → Prop) (ok208 : O208 R208) : ∀ j, chkAt prog x208 b208 (x208.path j) ((c208 R208 ok208) j) (x208.snap j).es
| .s0 v_t1 i_t3 => of_triv (rs := x208.rs) (snap := x208.snap) (c := c208 R208 ok208 (.s0 v_t1 i_t3)) (by kernel_rfl)
noncomputable def n208 : Nat → {Q : GVal → Bool → Prop // O208 Q}
| 0 => ⟨fun _ _ => False, fun _ _ h => h.elim⟩
| n + 1 => ⟨fun x y => Runs (a208 (n208 n).1 (n208 n).2 x) (KOf (fun j => Ev (c208 (n208 n).1 (n208 n).2) j y) y), fun x y h => sysA (cx := x208) follow func208 (h208 (n208 n).1 (n208 n).2 x) (g208 (n208 n).1 (n208 n).2) y h⟩
noncomputable def m208 : Mir prog 208 GVal Bool := w208 (fun x y => ∃ n, (n208 n).1 x y) (fun x y h => (n208 h.choose).2 x y h.choose_spec)
abbrev O235 (Q : GVal → Bool → Prop) : Prop := ∀ x y, Q x y → SpecG prog 235 ([.val (.agg ((GVal.cs x).map R.c))] ++ ([] : List C).map fun c => .val (.one (.c c))) [.one (.c (.bool y))] []
noncomputable def w235 (Q : GVal → Bool → Prop) (ok : O235 Q) : Mir prog 235 GVal Bool where
  fs := [.agg (List.replicate 5 none)]
  ga := fun x => [.val (.agg ((GVal.cs x).map R.c))]
  caps := fun x => []
  res := fun y => [.one (.c (.bool y))]
  outs := fun y => []
  R := Q
  ok := ok
  flat := true
  hflat := fun _ _ => flatE rfl
inductive J235 where
| s0 (v_t1 : GVal) (i_t3 : Int)
| s1 (v_t1 : GVal) (i_t4 : Int)
noncomputable def b235 : Code := f235.body.getD .skip
noncomputable def x235 : Cx J235 Bool where
  nt := 37
  rvs := [.tmp 2]
  mh := []
  res := fun y => [.one (.c (.bool y))]
  outs := fun y => []
  path := fun
    | .s0 _ _ => [0, 1, 0, 1, 1]
    | .s1 _ _ => [0, 1, 0, 1, 1, 1]
  sig := fun
    | .s0 _ _ => [1, 3]
    | .s1 _ _ => [1, 4]
  snap := fun
    | .s0 v_t1 i_t3 => ⟨[(1, .one (.ptr 0 1 0)), (3, .one (.c (.int .i64 i_t3)))], [((0, 1), .box ((GVal.cs v_t1).map A.c))]⟩
    | .s1 v_t1 i_t4 => ⟨[(1, .one (.ptr 0 1 0)), (4, .one (.c (.int .i64 i_t4)))], [((0, 1), .box ((GVal.cs v_t1).map A.c))]⟩
noncomputable def a235 (R235 : GVal → Bool → Prop) (ok235 : O235 R235) (v_0 : GVal) : Cert prog J235 Bool :=
 .ite 8 (decide (4096 < (v_0.Text.size : Int)))
 (.ret false)
 (.jump (.s0 v_0 0) [(1000, 1)])
noncomputable def c235 (R235 : GVal → Bool → Prop) (ok235 : O235 R235) : J235 → Cert prog J235 Bool
| .s0 v_t1 i_t3 =>
 .len E.str v_t1.Keys <|
 .ite 13 (decide (i_t3 < (v_t1.Keys.length : Int)))
 (.elem E.str v_t1.Keys i_t3 fun a1 =>
 .ite 22 (decide (4096 < (a1.size : Int)))
 (.ret false)
 (.jump (.s0 v_t1 (IntKind.i64.wrap (i_t3 + 1))) [(0, 1)]))
 (.jump (.s1 v_t1 0) [(0, 1)])
| .s1 v_t1 i_t4 =>
 .len E.GVal v_t1.Items <|
 .ite 27 (decide (i_t4 < (v_t1.Items.length : Int)))
 (.elem E.GVal v_t1.Items i_t4 fun a2 =>
 .call (w235 R235 ok235) a2 fun r3 =>
 .ite 36 (!r3)
 (.ret false)
 (.jump (.s1 v_t1 (IntKind.i64.wrap (i_t4 + 1))) [(0, 1)]))
 (.ret true)
theorem h235 (R235 : GVal → Bool → Prop) (ok235 : O235 R235) (v_0 : GVal) : tp prog x235 b235 (a235 R235 ok235 v_0) (ES.init [.val (.agg ((GVal.cs v_0).map R.c))]) :=
  of_triv (rs := x235.rs) (snap := x235.snap) (c := a235 R235 ok235 v_0) (by kernel_rfl)
theorem g235 (R235 : GVal → Bool → Prop) (ok235 : O235 R235) : ∀ j, chkAt prog x235 b235 (x235.path j) ((c235 R235 ok235) j) (x235.snap j).es
| .s0 v_t1 i_t3 => of_triv (rs := x235.rs) (snap := x235.snap) (c := c235 R235 ok235 (.s0 v_t1 i_t3)) (by kernel_rfl)
| .s1 v_t1 i_t4 => of_triv (rs := x235.rs) (snap := x235.snap) (c := c235 R235 ok235 (.s1 v_t1 i_t4)) (by kernel_rfl)
noncomputable def n235 : Nat → {Q : GVal → Bool → Prop // O235 Q}
| 0 => ⟨fun _ _ => False, fun _ _ h => h.elim⟩
| n + 1 => ⟨fun x y => Runs (a235 (n235 n).1 (n235 n).2 x) (KOf (fun j => Ev (c235 (n235 n).1 (n235 n).2) j y) y), fun x y h => sysA (cx := x235) follow func235 (h235 (n235 n).1 (n235 n).2 x) (g235 (n235 n).1 (n235 n).2) y h⟩
noncomputable def m235 : Mir prog 235 GVal Bool := w235 (fun x y => ∃ n, (n235 n).1 x y) (fun x y h => (n235 h.choose).2 x y h.choose_spec)
abbrev O236 (Q : GVal → Int → Prop) : Prop := ∀ x y, Q x y → SpecG prog 236 ([.val (.agg ((GVal.cs x).map R.c))] ++ ([] : List C).map fun c => .val (.one (.c c))) [.one (.c (.int .i64 y))] []
noncomputable def w236 (Q : GVal → Int → Prop) (ok : O236 Q) : Mir prog 236 GVal Int where
  fs := [.agg (List.replicate 5 none)]
  ga := fun x => [.val (.agg ((GVal.cs x).map R.c))]
  caps := fun x => []
  res := fun y => [.one (.c (.int .i64 y))]
  outs := fun y => []
  R := Q
  ok := ok
  flat := true
  hflat := fun _ _ => flatE rfl
inductive J236 where
| s0 (v_t1 : GVal) (most_t3 : Int) (i_t4 : Int)
noncomputable def b236 : Code := f236.body.getD .skip
noncomputable def x236 : Cx J236 Int where
  nt := 25
  rvs := [.tmp 2]
  mh := []
  res := fun y => [.one (.c (.int .i64 y))]
  outs := fun y => []
  path := fun
    | .s0 _ _ _ => [0, 1, 0, 1, 1]
  sig := fun
    | .s0 _ _ _ => [1, 3, 4]
  snap := fun
    | .s0 v_t1 most_t3 i_t4 => ⟨[(1, .one (.ptr 0 1 0)), (3, .one (.c (.int .i64 most_t3))), (4, .one (.c (.int .i64 i_t4)))], [((0, 1), .box ((GVal.cs v_t1).map A.c))]⟩
noncomputable def a236 (R236 : GVal → Int → Prop) (ok236 : O236 R236) (v_0 : GVal) : Cert prog J236 Int :=
 .jump (.s0 v_0 0 0) [(1000, 1)]
noncomputable def c236 (R236 : GVal → Int → Prop) (ok236 : O236 R236) : J236 → Cert prog J236 Int
| .s0 v_t1 most_t3 i_t4 =>
 .len E.GVal v_t1.Items <|
 .ite 10 (decide (i_t4 < (v_t1.Items.length : Int)))
 (.elem E.GVal v_t1.Items i_t4 fun a1 =>
 .call (w236 R236 ok236) a1 fun r2 =>
 .ite 21 (decide (most_t3 < r2))
 (.jump (.s0 v_t1 r2 (IntKind.i64.wrap (i_t4 + 1))) [(0, 1)])
 (.jump (.s0 v_t1 most_t3 (IntKind.i64.wrap (i_t4 + 1))) [(0, 1)]))
 (.ret (IntKind.i64.wrap (most_t3 + 1)))
theorem h236 (R236 : GVal → Int → Prop) (ok236 : O236 R236) (v_0 : GVal) : tp prog x236 b236 (a236 R236 ok236 v_0) (ES.init [.val (.agg ((GVal.cs v_0).map R.c))]) :=
  of_triv (rs := x236.rs) (snap := x236.snap) (c := a236 R236 ok236 v_0) (by kernel_rfl)
theorem g236 (R236 : GVal → Int → Prop) (ok236 : O236 R236) : ∀ j, chkAt prog x236 b236 (x236.path j) ((c236 R236 ok236) j) (x236.snap j).es
| .s0 v_t1 most_t3 i_t4 => of_triv (rs := x236.rs) (snap := x236.snap) (c := c236 R236 ok236 (.s0 v_t1 most_t3 i_t4)) (by kernel_rfl)
noncomputable def n236 : Nat → {Q : GVal → Int → Prop // O236 Q}
| 0 => ⟨fun _ _ => False, fun _ _ h => h.elim⟩
| n + 1 => ⟨fun x y => Runs (a236 (n236 n).1 (n236 n).2 x) (KOf (fun j => Ev (c236 (n236 n).1 (n236 n).2) j y) y), fun x y h => sysA (cx := x236) follow func236 (h236 (n236 n).1 (n236 n).2 x) (g236 (n236 n).1 (n236 n).2) y h⟩
noncomputable def m236 : Mir prog 236 GVal Int := w236 (fun x y => ∃ n, (n236 n).1 x y) (fun x y h => (n236 h.choose).2 x y h.choose_spec)
abbrev O237 (Q : GVal → Int → Prop) : Prop := ∀ x y, Q x y → SpecG prog 237 ([.val (.agg ((GVal.cs x).map R.c))] ++ ([] : List C).map fun c => .val (.one (.c c))) [.one (.c (.int .i64 y))] []
noncomputable def w237 (Q : GVal → Int → Prop) (ok : O237 Q) : Mir prog 237 GVal Int where
  fs := [.agg (List.replicate 5 none)]
  ga := fun x => [.val (.agg ((GVal.cs x).map R.c))]
  caps := fun x => []
  res := fun y => [.one (.c (.int .i64 y))]
  outs := fun y => []
  R := Q
  ok := ok
  flat := true
  hflat := fun _ _ => flatE rfl
inductive J237 where
| s0 (v_t1 : GVal) (n_t3 : Int) (i_t4 : Int)
noncomputable def b237 : Code := f237.body.getD .skip
noncomputable def x237 : Cx J237 Int where
  nt := 21
  rvs := [.tmp 2]
  mh := []
  res := fun y => [.one (.c (.int .i64 y))]
  outs := fun y => []
  path := fun
    | .s0 _ _ _ => [0, 1, 0, 1, 1]
  sig := fun
    | .s0 _ _ _ => [1, 3, 4]
  snap := fun
    | .s0 v_t1 n_t3 i_t4 => ⟨[(1, .one (.ptr 0 1 0)), (3, .one (.c (.int .i64 n_t3))), (4, .one (.c (.int .i64 i_t4)))], [((0, 1), .box ((GVal.cs v_t1).map A.c))]⟩
noncomputable def a237 (R237 : GVal → Int → Prop) (ok237 : O237 R237) (v_0 : GVal) : Cert prog J237 Int :=
 .jump (.s0 v_0 1 0) [(1000, 1)]
noncomputable def c237 (R237 : GVal → Int → Prop) (ok237 : O237 R237) : J237 → Cert prog J237 Int
| .s0 v_t1 n_t3 i_t4 =>
 .len E.GVal v_t1.Items <|
 .ite 9 (decide (i_t4 < (v_t1.Items.length : Int)))
 (.elem E.GVal v_t1.Items i_t4 fun a1 =>
 .call (w237 R237 ok237) a1 fun r2 =>
 .jump (.s0 v_t1 (IntKind.i64.wrap (n_t3 + r2)) (IntKind.i64.wrap (i_t4 + 1))) [(0, 1)])
 (.ret n_t3)
theorem h237 (R237 : GVal → Int → Prop) (ok237 : O237 R237) (v_0 : GVal) : tp prog x237 b237 (a237 R237 ok237 v_0) (ES.init [.val (.agg ((GVal.cs v_0).map R.c))]) :=
  of_triv (rs := x237.rs) (snap := x237.snap) (c := a237 R237 ok237 v_0) (by kernel_rfl)
theorem g237 (R237 : GVal → Int → Prop) (ok237 : O237 R237) : ∀ j, chkAt prog x237 b237 (x237.path j) ((c237 R237 ok237) j) (x237.snap j).es
| .s0 v_t1 n_t3 i_t4 => of_triv (rs := x237.rs) (snap := x237.snap) (c := c237 R237 ok237 (.s0 v_t1 n_t3 i_t4)) (by kernel_rfl)
noncomputable def n237 : Nat → {Q : GVal → Int → Prop // O237 Q}
| 0 => ⟨fun _ _ => False, fun _ _ h => h.elim⟩
| n + 1 => ⟨fun x y => Runs (a237 (n237 n).1 (n237 n).2 x) (KOf (fun j => Ev (c237 (n237 n).1 (n237 n).2) j y) y), fun x y h => sysA (cx := x237) follow func237 (h237 (n237 n).1 (n237 n).2 x) (g237 (n237 n).1 (n237 n).2) y h⟩
noncomputable def m237 : Mir prog 237 GVal Int := w237 (fun x y => ∃ n, (n237 n).1 x y) (fun x y h => (n237 h.choose).2 x y h.choose_spec)
noncomputable def b209 : Code := f209.body.getD .skip
noncomputable def x209 : Cx Empty Bool where
  nt := 15
  rvs := [.tmp 2]
  mh := []
  res := fun y => [.one (.c (.bool y))]
  outs := fun y => []
  path := nofun
  sig := nofun
  snap := nofun
noncomputable def a209 (v_0 : GVal) : Cert prog Empty Bool :=
 .call m235 v_0 fun r1 =>
 .ite 5 r1
 (.call m236 v_0 fun r2 =>
 .ite 10 (decide (r2 ≤ 16))
 (.call m237 v_0 fun r3 =>
 .ret (decide (r3 ≤ 1000)))
 (.ret false))
 (.ret false)
noncomputable def c209 : Empty → Cert prog Empty Bool := nofun
theorem h209 (v_0 : GVal) : tp prog x209 b209 (a209 v_0) (ES.init [.val (.agg ((GVal.cs v_0).map R.c))]) :=
  of_triv (rs := x209.rs) (snap := x209.snap) (c := a209 v_0) (by kernel_rfl)
theorem g209 : ∀ j, ck prog x209 b209 c209 j := nofun
noncomputable def m209 : Mir prog 209 GVal Bool where
  fs := [.agg (List.replicate 5 none)]
  ga := fun x => [.val (.agg ((GVal.cs x).map R.c))]
  caps := fun x => []
  res := x209.res
  outs := x209.outs
  R := fun x y => Rn c209 (a209 x) y
  ok := fun x y h => sysA (cx := x209) follow func209 (h209 x) (g209) y h
  flat := true
  hflat := fun _ _ => flatE rfl
abbrev O210 (Q : GVal → Bool → Prop) : Prop := ∀ x y, Q x y → SpecG prog 210 ([.val (.agg ((GVal.cs x).map R.c))] ++ ([] : List C).map fun c => .val (.one (.c c))) [.one (.c (.bool y))] []
noncomputable def w210 (Q : GVal → Bool → Prop) (ok : O210 Q) : Mir prog 210 GVal Bool where
  fs := [.agg (List.replicate 5 none)]
  ga := fun x => [.val (.agg ((GVal.cs x).map R.c))]
  caps := fun x => []
  res := fun y => [.one (.c (.bool y))]
  outs := fun y => []
  R := Q
  ok := ok
  flat := true
  hflat := fun _ _ => flatE rfl
inductive J210 where
| s0 (v_t1 : GVal) (i_t3 : Int)
noncomputable def b210 : Code := f210.body.getD .skip
noncomputable def x210 : Cx J210 Bool where
  nt := 20
  rvs := [.tmp 2]
  mh := []
  res := fun y => [.one (.c (.bool y))]
  outs := fun y => []
  path := fun
    | .s0 _ _ => [0, 1, 0, 1]
  sig := fun
    | .s0 _ _ => [1, 3]
  snap := fun
    | .s0 v_t1 i_t3 => ⟨[(1, .one (.ptr 0 1 0)), (3, .one (.c (.int .i64 i_t3)))], [((0, 1), .box ((GVal.cs v_t1).map A.c))]⟩
noncomputable def a210 (R210 : GVal → Bool → Prop) (ok210 : O210 R210) (v_0 : GVal) : Cert prog J210 Bool :=
 .jump (.s0 v_0 0) [(1000, 1)]
noncomputable def c210 (R210 : GVal → Bool → Prop) (ok210 : O210 R210) : J210 → Cert prog J210 Bool
| .s0 v_t1 i_t3 =>
 .len E.GVal v_t1.Items <|
 .ite 8 (decide (i_t3 < (v_t1.Items.length : Int)))
 (.elem E.GVal v_t1.Items i_t3 fun a1 =>
 .call (w210 R210 ok210) a1 fun r2 =>
 .ite 16 r2
 (.ret true)
 (.jump (.s0 v_t1 (IntKind.i64.wrap (i_t3 + 1))) [(0, 1)]))
 (.ret (v_t1.Kind == 6))
theorem h210 (R210 : GVal → Bool → Prop) (ok210 : O210 R210) (v_0 : GVal) : tp prog x210 b210 (a210 R210 ok210 v_0) (ES.init [.val (.agg ((GVal.cs v_0).map R.c))]) :=
  of_triv (rs := x210.rs) (snap := x210.snap) (c := a210 R210 ok210 v_0) (by kernel_rfl)
theorem g210 (R210 : GVal → Bool → Prop) (ok210 : O210 R210) : ∀ j, chkAt prog x210 b210 (x210.path j) ((c210 R210 ok210) j) (x210.snap j).es
| .s0 v_t1 i_t3 => of_triv (rs := x210.rs) (snap := x210.snap) (c := c210 R210 ok210 (.s0 v_t1 i_t3)) (by kernel_rfl)
noncomputable def n210 : Nat → {Q : GVal → Bool → Prop // O210 Q}
| 0 => ⟨fun _ _ => False, fun _ _ h => h.elim⟩
| n + 1 => ⟨fun x y => Runs (a210 (n210 n).1 (n210 n).2 x) (KOf (fun j => Ev (c210 (n210 n).1 (n210 n).2) j y) y), fun x y h => sysA (cx := x210) follow func210 (h210 (n210 n).1 (n210 n).2 x) (g210 (n210 n).1 (n210 n).2) y h⟩
noncomputable def m210 : Mir prog 210 GVal Bool := w210 (fun x y => ∃ n, (n210 n).1 x y) (fun x y h => (n210 h.choose).2 x y h.choose_spec)
noncomputable def b158 : Code := f158.body.getD .skip
noncomputable def x158 : Cx Empty Bool where
  nt := 14
  rvs := [.tmp 2]
  mh := []
  res := fun y => [.one (.c (.bool y))]
  outs := fun y => []
  path := nofun
  sig := nofun
  snap := nofun
noncomputable def a158 (v_0 : GVal) : Cert prog Empty Bool :=
 .call m208 v_0 fun r1 =>
 .ite 5 r1
 (.call m209 v_0 fun r2 =>
 .ite 9 r2
 (.call m210 v_0 fun r3 =>
 .ret (!r3))
 (.ret false))
 (.ret false)
noncomputable def c158 : Empty → Cert prog Empty Bool := nofun
theorem h158 (v_0 : GVal) : tp prog x158 b158 (a158 v_0) (ES.init [.val (.agg ((GVal.cs v_0).map R.c))]) :=
  of_triv (rs := x158.rs) (snap := x158.snap) (c := a158 v_0) (by kernel_rfl)
theorem g158 : ∀ j, ck prog x158 b158 c158 j := nofun
noncomputable def m158 : Mir prog 158 GVal Bool where
  fs := [.agg (List.replicate 5 none)]
  ga := fun x => [.val (.agg ((GVal.cs x).map R.c))]
  caps := fun x => []
  res := x158.res
  outs := x158.outs
  R := fun x y => Rn c158 (a158 x) y
  ok := fun x y h => sysA (cx := x158) follow func158 (h158 x) (g158) y h
  flat := true
  hflat := fun _ _ => flatE rfl
noncomputable def b211 : Code := f211.body.getD .skip
noncomputable def x211 : Cx Empty Bool where
  nt := 29
  rvs := [.tmp 2]
  mh := []
  res := fun y => [.one (.c (.bool y))]
  outs := fun y => []
  path := nofun
  sig := nofun
  snap := nofun
noncomputable def a211 (c_0 : Int) : Cert prog Empty Bool :=
 .ite 5 (decide (97 ≤ c_0))
 (.ite 9 (decide (c_0 ≤ 122))
 (.ret true)
 (.ite 12 (decide (65 ≤ c_0))
 (.ite 17 (decide (c_0 ≤ 90))
 (.ret true)
 (.ite 20 (decide (48 ≤ c_0))
 (.ite 25 (decide (c_0 ≤ 57))
 (.ret true)
 (.ret (c_0 == 95)))
 (.ret (c_0 == 95))))
 (.ite 20 (decide (48 ≤ c_0))
 (.ite 25 (decide (c_0 ≤ 57))
 (.ret true)
 (.ret (c_0 == 95)))
 (.ret (c_0 == 95)))))
 (.ite 12 (decide (65 ≤ c_0))
 (.ite 17 (decide (c_0 ≤ 90))
 (.ret true)
 (.ite 20 (decide (48 ≤ c_0))
 (.ite 25 (decide (c_0 ≤ 57))
 (.ret true)
 (.ret (c_0 == 95)))
 (.ret (c_0 == 95))))
 (.ite 20 (decide (48 ≤ c_0))
 (.ite 25 (decide (c_0 ≤ 57))
 (.ret true)
 (.ret (c_0 == 95)))
 (.ret (c_0 == 95))))
noncomputable def c211 : Empty → Cert prog Empty Bool := nofun
theorem h211 (c_0 : Int) : tp prog x211 b211 (a211 c_0) (ES.init [.val (.one (.c (.int .u8 c_0)))]) :=
  of_triv (rs := x211.rs) (snap := x211.snap) (c := a211 c_0) (by kernel_rfl)
theorem g211 : ∀ j, ck prog x211 b211 c211 j := nofun
noncomputable def m211 : Mir prog 211 Int Bool where
  fs := [.one none]
  ga := fun x => [.val (.one (.c (.int .u8 x)))]
  caps := fun x => []
  res := x211.res
  outs := x211.outs
  R := fun x y => Rn c211 (a211 x) y
  ok := fun x y h => sysA (cx := x211) follow func211 (h211 x) (g211) y h
  flat := true
  hflat := fun _ _ => flatE rfl
inductive J159 where
| s0 (s_t0 : ByteArray)
| s1 (s_t0 : ByteArray) (i_t3 : Int)
noncomputable def b159 : Code := f159.body.getD .skip
noncomputable def x159 : Cx J159 Bool where
  nt := 33
  rvs := [.tmp 2]
  mh := []
  res := fun y => [.one (.c (.bool y))]
  outs := fun y => []
  path := fun
    | .s0 _ => [1, 1]
    | .s1 _ _ => [0, 1, 0, 1, 1]
  sig := fun
    | .s0 _ => [0]
    | .s1 _ _ => [0, 3]
  snap := fun
    | .s0 s_t0 => ⟨[(0, .one (.c (.str s_t0)))], []⟩
    | .s1 s_t0 i_t3 => ⟨[(0, .one (.c (.str s_t0))), (3, .one (.c (.int .i64 i_t3)))], []⟩
noncomputable def a159 (s_0 : ByteArray) : Cert prog J159 Bool :=
 .ite 7 (decide ((s_0.size : Int) < 1))
 (.ret false)
 (.ite 12 (decide (64 < (s_0.size : Int)))
 (.ret false)
 (.byte s_0 0 <|
 .ite 16 (decide (48 ≤ (byteAt s_0 ((0 : Int).toNat))))
 (.byte s_0 0 <|
 .ite 21 (decide ((byteAt s_0 ((0 : Int).toNat)) ≤ 57))
 (.ret false)
 (.jump (.s0 s_0) []))
 (.jump (.s0 s_0) [])))
noncomputable def c159 : J159 → Cert prog J159 Bool
| .s0 s_t0 =>
 .jump (.s1 s_t0 0) []
| .s1 s_t0 i_t3 =>
 .ite 25 (decide (i_t3 < (s_t0.size : Int)))
 (.byte s_t0 i_t3 <|
 .call m211 (byteAt s_t0 i_t3.toNat) fun r1 =>
 .ite 32 (!r1)
 (.ret false)
 (.jump (.s1 s_t0 (IntKind.i64.wrap (i_t3 + 1))) []))
 (.ret true)
theorem h159 (s_0 : ByteArray) : tp prog x159 b159 (a159 s_0) (ES.init [.val (.one (.c (.str s_0)))]) :=
  of_triv (rs := x159.rs) (snap := x159.snap) (c := a159 s_0) (by kernel_rfl)
theorem g159 : ∀ j, ck prog x159 b159 c159 j
| .s0 s_t0 => of_triv (rs := x159.rs) (snap := x159.snap) (c := c159 (.s0 s_t0)) (by kernel_rfl)
| .s1 s_t0 i_t3 => of_triv (rs := x159.rs) (snap := x159.snap) (c := c159 (.s1 s_t0 i_t3)) (by kernel_rfl)
noncomputable def m159 : Mir prog 159 ByteArray Bool where
  fs := [.one none]
  ga := fun x => [.val (.one (.c (.str x)))]
  caps := fun x => []
  res := x159.res
  outs := x159.outs
  R := fun x y => Rn c159 (a159 x) y
  ok := fun x y h => sysA (cx := x159) follow func159 (h159 x) (g159) y h
  flat := true
  hflat := fun _ _ => flatE rfl
inductive J160 where
| s0 (s_t0 : ByteArray) (i_t3 : Int)
noncomputable def b160 : Code := f160.body.getD .skip
noncomputable def x160 : Cx J160 Bool where
  nt := 40
  rvs := [.tmp 2]
  mh := []
  res := fun y => [.one (.c (.bool y))]
  outs := fun y => []
  path := fun
    | .s0 _ _ => [0, 1, 0, 1, 1]
  sig := fun
    | .s0 _ _ => [0, 3]
  snap := fun
    | .s0 s_t0 i_t3 => ⟨[(0, .one (.c (.str s_t0))), (3, .one (.c (.int .i64 i_t3)))], []⟩
noncomputable def a160 (s_0 : ByteArray) : Cert prog J160 Bool :=
 .ite 7 (decide ((s_0.size : Int) < 1))
 (.ret false)
 (.ite 11 (decide (64 < (s_0.size : Int)))
 (.ret false)
 (.jump (.s0 s_0 0) []))
noncomputable def c160 : J160 → Cert prog J160 Bool
| .s0 s_t0 i_t3 =>
 .ite 15 (decide (i_t3 < (s_t0.size : Int)))
 (.byte s_t0 i_t3 <|
 .ite 22 (decide ((byteAt s_t0 i_t3.toNat) < 33))
 (.ret false)
 (.byte s_t0 i_t3 <|
 .ite 28 (decide (126 < (byteAt s_t0 i_t3.toNat)))
 (.ret false)
 (.byte s_t0 i_t3 <|
 .ite 34 ((byteAt s_t0 i_t3.toNat) == 47)
 (.ret false)
 (.byte s_t0 i_t3 <|
 .ite 39 ((byteAt s_t0 i_t3.toNat) == 34)
 (.ret false)
 (.jump (.s0 s_t0 (IntKind.i64.wrap (i_t3 + 1))) [])))))
 (.ret true)
theorem h160 (s_0 : ByteArray) : tp prog x160 b160 (a160 s_0) (ES.init [.val (.one (.c (.str s_0)))]) :=
  of_triv (rs := x160.rs) (snap := x160.snap) (c := a160 s_0) (by kernel_rfl)
theorem g160 : ∀ j, ck prog x160 b160 c160 j
| .s0 s_t0 i_t3 => of_triv (rs := x160.rs) (snap := x160.snap) (c := c160 (.s0 s_t0 i_t3)) (by kernel_rfl)
noncomputable def m160 : Mir prog 160 ByteArray Bool where
  fs := [.one none]
  ga := fun x => [.val (.one (.c (.str x)))]
  caps := fun x => []
  res := x160.res
  outs := x160.outs
  R := fun x y => Rn c160 (a160 x) y
  ok := fun x y h => sysA (cx := x160) follow func160 (h160 x) (g160) y h
  flat := true
  hflat := fun _ _ => flatE rfl
inductive J161 where
| s0 (o_t1 : GPolicy) (l_t3 : List Int) (i_t4 : Int)
| s1 (o_t1 : GPolicy) (i_t5 : Int)
noncomputable def b161 : Code := f161.body.getD .skip
noncomputable def x161 : Cx J161 Bool where
  nt := 69
  rvs := [.tmp 2]
  mh := []
  res := fun y => [.one (.c (.bool y))]
  outs := fun y => []
  path := fun
    | .s0 _ _ _ => [0, 1, 0, 1, 1]
    | .s1 _ _ => [0, 1, 0, 1, 1, 1]
  sig := fun
    | .s0 _ _ _ => [1, 3, 4]
    | .s1 _ _ => [1, 5]
  snap := fun
    | .s0 o_t1 l_t3 i_t4 => ⟨[(1, .one (.ptr 0 1 0)), (3, .one (.own 1 1)), (4, .one (.c (.int .i64 i_t4)))], [((0, 1), .box ((GPolicy.cs o_t1).map A.c)), ((1, 1), .arr 3 1 (E.i64.L l_t3))]⟩
    | .s1 o_t1 i_t5 => ⟨[(1, .one (.ptr 0 1 0)), (5, .one (.c (.int .i64 i_t5)))], [((0, 1), .box ((GPolicy.cs o_t1).map A.c))]⟩
noncomputable def a161 (o_0 : GPolicy) : Cert prog J161 Bool :=
 .bld E.i64 [o_0.ToStart, o_0.ToClose, o_0.Total, o_0.Beat, o_0.First, o_0.Most] <|
 .jump (.s0 o_0 [o_0.ToStart, o_0.ToClose, o_0.Total, o_0.Beat, o_0.First, o_0.Most] 0) [(1000, 1), (18000, 1)]
noncomputable def c161 : J161 → Cert prog J161 Bool
| .s0 o_t1 l_t3 i_t4 =>
 .len E.i64 l_t3 <|
 .ite 22 (decide (i_t4 < (l_t3.length : Int)))
 (.idx E.i64 l_t3 i_t4 <|
 .eget E.i64 l_t3 i_t4.toNat fun a1 =>
 .call m114 (a1, 0, 1099511627776) fun r2 =>
 .ite 30 (!r2)
 (.ret false)
 (.jump (.s0 o_t1 l_t3 (IntKind.i64.wrap (i_t4 + 1))) [(0, 1), (1, 1)]))
 (.jump (.s1 o_t1 0) [(0, 1)])
| .s1 o_t1 i_t5 =>
 .len E.str o_t1.Fatal <|
 .ite 35 (decide (i_t5 < (o_t1.Fatal.length : Int)))
 (.elem E.str o_t1.Fatal i_t5 fun a3 =>
 .ite 44 (decide (4096 < (a3.size : Int)))
 (.ret false)
 (.jump (.s1 o_t1 (IntKind.i64.wrap (i_t5 + 1))) [(0, 1)]))
 (.ite 48 (strEq o_t1.Queue eB)
 (.call m114 (o_t1.Coef, 0, 10000) fun r4 =>
 .ite 58 r4
 (.call m114 (o_t1.Attempts, 0, 1000) fun r5 =>
 .ite 63 r5
 (.len E.str o_t1.Fatal <|
 .ret (decide ((o_t1.Fatal.length : Int) ≤ 64)))
 (.ret false))
 (.ret false))
 (.call m159 o_t1.Queue fun r6 =>
 .ite 53 r6
 (.call m114 (o_t1.Coef, 0, 10000) fun r7 =>
 .ite 58 r7
 (.call m114 (o_t1.Attempts, 0, 1000) fun r8 =>
 .ite 63 r8
 (.len E.str o_t1.Fatal <|
 .ret (decide ((o_t1.Fatal.length : Int) ≤ 64)))
 (.ret false))
 (.ret false))
 (.ret false)))
theorem h161 (o_0 : GPolicy) : tp prog x161 b161 (a161 o_0) (ES.init [.val (.agg ((GPolicy.cs o_0).map R.c))]) :=
  of_triv (rs := x161.rs) (snap := x161.snap) (c := a161 o_0) (by kernel_rfl)
theorem g161 : ∀ j, ck prog x161 b161 c161 j
| .s0 o_t1 l_t3 i_t4 => of_triv (rs := x161.rs) (snap := x161.snap) (c := c161 (.s0 o_t1 l_t3 i_t4)) (by kernel_rfl)
| .s1 o_t1 i_t5 => of_triv (rs := x161.rs) (snap := x161.snap) (c := c161 (.s1 o_t1 i_t5)) (by kernel_rfl)
noncomputable def m161 : Mir prog 161 GPolicy Bool where
  fs := [.agg (List.replicate 10 none)]
  ga := fun x => [.val (.agg ((GPolicy.cs x).map R.c))]
  caps := fun x => []
  res := x161.res
  outs := x161.outs
  R := fun x y => Rn c161 (a161 x) y
  ok := fun x y h => sysA (cx := x161) follow func161 (h161 x) (g161) y h
  flat := true
  hflat := fun _ _ => flatE rfl
inductive J162 where
| s0 (v_t1 : GVal) (i_t3 : Int)
noncomputable def b162 : Code := f162.body.getD .skip
noncomputable def x162 : Cx J162 Bool where
  nt := 66
  rvs := [.tmp 2]
  mh := []
  res := fun y => [.one (.c (.bool y))]
  outs := fun y => []
  path := fun
    | .s0 _ _ => [0, 1, 0, 1, 1]
  sig := fun
    | .s0 _ _ => [1, 3]
  snap := fun
    | .s0 v_t1 i_t3 => ⟨[(1, .one (.ptr 0 1 0)), (3, .one (.c (.int .i64 i_t3)))], [((0, 1), .box ((GVal.cs v_t1).map A.c))]⟩
noncomputable def a162 (v_0 : GVal) : Cert prog J162 Bool :=
 .ite 8 (v_0.Kind != 4)
 (.ret false)
 (.len E.GVal v_0.Items <|
 .ite 14 ((v_0.Items.length : Int) != 2)
 (.ret false)
 (.elem E.GVal v_0.Items 1 fun a1 =>
 .ite 21 (a1.Kind != 4)
 (.ret false)
 (.jump (.s0 v_0 0) [(1000, 1)])))
noncomputable def c162 : J162 → Cert prog J162 Bool
| .s0 v_t1 i_t3 =>
 .elem E.GVal v_t1.Items 1 fun a2 =>
 .len E.GVal a2.Items <|
 .ite 29 (decide (i_t3 < (a2.Items.length : Int)))
 (.elem E.GVal v_t1.Items 1 fun a3 =>
 .elem E.GVal a3.Items i_t3 fun a4 =>
 .ite 43 (a4.Kind != 4)
 (.ret false)
 (.len E.GVal a4.Items <|
 .ite 49 ((a4.Items.length : Int) != 2)
 (.ret false)
 (.elem E.GVal a4.Items 0 fun a5 =>
 .ite 57 (a5.Kind != 3)
 (.ret false)
 (.elem E.GVal a4.Items 0 fun a6 =>
 .call m159 a6.Text fun r7 =>
 .ite 65 (!r7)
 (.ret false)
 (.jump (.s0 v_t1 (IntKind.i64.wrap (i_t3 + 1))) [(0, 1)])))))
 (.ret true)
theorem h162 (v_0 : GVal) : tp prog x162 b162 (a162 v_0) (ES.init [.val (.agg ((GVal.cs v_0).map R.c))]) :=
  of_triv (rs := x162.rs) (snap := x162.snap) (c := a162 v_0) (by kernel_rfl)
theorem g162 : ∀ j, ck prog x162 b162 c162 j
| .s0 v_t1 i_t3 => of_triv (rs := x162.rs) (snap := x162.snap) (c := c162 (.s0 v_t1 i_t3)) (by kernel_rfl)
noncomputable def m162 : Mir prog 162 GVal Bool where
  fs := [.agg (List.replicate 5 none)]
  ga := fun x => [.val (.agg ((GVal.cs x).map R.c))]
  caps := fun x => []
  res := x162.res
  outs := x162.outs
  R := fun x y => Rn c162 (a162 x) y
  ok := fun x y h => sysA (cx := x162) follow func162 (h162 x) (g162) y h
  flat := true
  hflat := fun _ _ => flatE rfl
inductive J104 where
| s0 (c_t1 : GCommand) (seq_t3 : Bool) (name_t4 : Bool) (key_t5 : Bool) (t35 : Int) (t47 : Bool)
noncomputable def b104 : Code := f104.body.getD .skip
noncomputable def x104 : Cx J104 Bool where
  nt := 132
  rvs := [.tmp 2]
  mh := []
  res := fun y => [.one (.c (.bool y))]
  outs := fun y => []
  path := fun
    | .s0 _ _ _ _ _ _ => [1, 1, 1, 0, 1, 0, 1, 1, 1, 1, 1]
  sig := fun
    | .s0 _ _ _ _ _ _ => [1, 3, 4, 5, 35, 47]
  snap := fun
    | .s0 c_t1 seq_t3 name_t4 key_t5 t35 t47 => ⟨[(1, .one (.ptr 0 1 0)), (3, .one (.c (.bool seq_t3))), (4, .one (.c (.bool name_t4))), (5, .one (.c (.bool key_t5))), (35, .one (.c (.int .i64 t35))), (47, .one (.c (.bool t47)))], [((0, 1), .box ((GCommand.cs c_t1).map A.c))]⟩
noncomputable def a104 (c_0 : GCommand) : Cert prog J104 Bool :=
 .call m114 (c_0.Kind, 1, 14) fun r1 =>
 .ite 10 (!r1)
 (.ret false)
 (.call m157 c_0 fun r2 =>
 .call m156 (r2, (GCommand.mk c_0.Kind 0 eB eB 0 zV zO)) fun r3 =>
 .ite 19 (!r3)
 (.ret false)
 (.call m158 c_0.Data fun r4 =>
 .ite 24 (!r4)
 (.ret false)
 (.call m114 (c_0.Seq, 1, 2000) fun r5 =>
 .call m159 c_0.Name fun r6 =>
 .call m160 c_0.Key fun r7 =>
 .ite 36 (c_0.Kind == 1)
 (.ite 39 r5
 (.ite 42 r6
 (.call m161 c_0.Opts fun r8 =>
 .ret r8)
 (.ret false))
 (.ret false))
 (.ite 47 (c_0.Kind == 2)
 (.jump (.s0 c_0 r5 r6 r7 c_0.Kind true) [(1000, 1)])
 (.jump (.s0 c_0 r5 r6 r7 c_0.Kind (c_0.Kind == 4)) [(1000, 1)])))))
noncomputable def c104 : J104 → Cert prog J104 Bool
| .s0 c_t1 seq_t3 name_t4 key_t5 t35 t47 =>
 .ite 47 t47
 (.ret seq_t3)
 (.ite 51 (t35 == 3)
 (.ite 54 seq_t3
 (.call m114 (c_t1.N, 1, 1099511627776) fun r9 =>
 .ret r9)
 (.ret false))
 (.ite 59 (t35 == 5)
 (.ite 62 seq_t3
 (.ite 65 name_t4
 (.ite 68 key_t5
 (.call m114 (c_t1.N, 0, 2) fun r10 =>
 .ret r10)
 (.ret false))
 (.ret false))
 (.ret false))
 (.ite 73 (t35 == 6)
 (.ite 76 seq_t3
 (.ite 79 name_t4
 (.ret key_t5)
 (.ret false))
 (.ret false))
 (.ite 82 (t35 == 7)
 (.ite 85 name_t4
 (.ite 89 (c_t1.N == (-1))
 (.ret true)
 (.call m114 (c_t1.N, 0, 2147483647) fun r11 =>
 .ite 93 r11
 (.ret (c_t1.Data.Kind == 0))
 (.ret false)))
 (.ret false))
 (.ite 101 (t35 == 8)
 (.ite 104 key_t5
 (.ret name_t4)
 (.ret false))
 (.ite 107 (t35 == 9)
 (.ite 110 key_t5
 (.call m114 (c_t1.N, 0, 1) fun r12 =>
 .ret r12)
 (.ret false))
 (.ite 115 (t35 == 10)
 (.ret (c_t1.Data.Kind == 5))
 (.ite 121 (t35 == 12)
 (.ret (decide ((c_t1.Name.size : Int) ≤ 4096)))
 (.ite 127 (t35 == 14)
 (.call m162 c_t1.Data fun r13 =>
 .ret r13)
 (.ret true))))))))))
theorem h104 (c_0 : GCommand) : tp prog x104 b104 (a104 c_0) (ES.init [.val (.agg ((GCommand.cs c_0).map R.c))]) :=
  of_triv (rs := x104.rs) (snap := x104.snap) (c := a104 c_0) (by kernel_rfl)
theorem g104 : ∀ j, ck prog x104 b104 c104 j
| .s0 c_t1 seq_t3 name_t4 key_t5 t35 t47 => of_triv (rs := x104.rs) (snap := x104.snap) (c := c104 (.s0 c_t1 seq_t3 name_t4 key_t5 t35 t47)) (by kernel_rfl)
noncomputable def m104 : Mir prog 104 GCommand Bool where
  fs := [.agg (List.replicate 20 none)]
  ga := fun x => [.val (.agg ((GCommand.cs x).map R.c))]
  caps := fun x => []
  res := x104.res
  outs := x104.outs
  R := fun x y => Rn c104 (a104 x) y
  ok := fun x y h => sysA (cx := x104) follow func104 (h104 x) (g104) y h
  flat := true
  hflat := fun _ _ => flatE rfl
noncomputable def b165 : Code := f165.body.getD .skip
noncomputable def x165 : Cx Empty (List Int) where
  nt := 2
  rvs := [.tmp 0]
  mh := []
  res := fun y => [.one (.own 3 1 (E.i64.L y))]
  outs := fun y => []
  path := nofun
  sig := nofun
  snap := nofun
noncomputable def a165 : Cert prog Empty (List Int) :=
 .bld E.i64 [7, 12, 14, 16, 19, 23, 18, 27, 28, 29, 30, 31, 32, 35] <|
 .ret [7, 12, 14, 16, 19, 23, 18, 27, 28, 29, 30, 31, 32, 35]
noncomputable def c165 : Empty → Cert prog Empty (List Int) := nofun
theorem h165 : tp prog x165 b165 (a165) (ES.init []) :=
  of_triv (rs := x165.rs) (snap := x165.snap) (c := a165) (by kernel_rfl)
theorem g165 : ∀ j, ck prog x165 b165 c165 j := nofun
noncomputable def m165 : Mir prog 165 Unit (List Int) where
  fs := []
  ga := fun x => []
  caps := fun x => []
  res := x165.res
  outs := x165.outs
  R := fun x y => Rn c165 (a165) y
  ok := fun x y h => sysA (cx := x165) follow func165 (h165) (g165) y h
  flat := false
  hflat := nofun
inductive J113 where
| s0 (kind_t0 : Int) (l_t3 : List Int) (i_t4 : Int)
noncomputable def b113 : Code := f113.body.getD .skip
noncomputable def x113 : Cx J113 Int where
  nt := 20
  rvs := [.tmp 2]
  mh := []
  res := fun y => [.one (.c (.int .i64 y))]
  outs := fun y => []
  path := fun
    | .s0 _ _ _ => [0, 1, 0, 1, 1]
  sig := fun
    | .s0 _ _ _ => [0, 3, 4]
  snap := fun
    | .s0 kind_t0 l_t3 i_t4 => ⟨[(0, .one (.c (.int .i64 kind_t0))), (3, .one (.own 0 1)), (4, .one (.c (.int .i64 i_t4)))], [((0, 1), .arr 3 1 (E.i64.L l_t3))]⟩
noncomputable def a113 (kind_0 : Int) : Cert prog J113 Int :=
 .call m165 () fun r1 =>
 .jump (.s0 kind_0 r1 0) [(5000, 1)]
noncomputable def c113 : J113 → Cert prog J113 Int
| .s0 kind_t0 l_t3 i_t4 =>
 .len E.i64 l_t3 <|
 .ite 9 (decide (i_t4 < (l_t3.length : Int)))
 (.idx E.i64 l_t3 i_t4 <|
 .eget E.i64 l_t3 i_t4.toNat fun a2 =>
 .ite 17 (a2 == kind_t0)
 (.ret (IntKind.i64.wrap (i_t4 + 1)))
 (.jump (.s0 kind_t0 l_t3 (IntKind.i64.wrap (i_t4 + 1))) [(0, 1)]))
 (.ret 0)
theorem h113 (kind_0 : Int) : tp prog x113 b113 (a113 kind_0) (ES.init [.val (.one (.c (.int .i64 kind_0)))]) :=
  of_triv (rs := x113.rs) (snap := x113.snap) (c := a113 kind_0) (by kernel_rfl)
theorem g113 : ∀ j, ck prog x113 b113 c113 j
| .s0 kind_t0 l_t3 i_t4 => of_triv (rs := x113.rs) (snap := x113.snap) (c := c113 (.s0 kind_t0 l_t3 i_t4)) (by kernel_rfl)
noncomputable def m113 : Mir prog 113 Int Int where
  fs := [.one none]
  ga := fun x => [.val (.one (.c (.int .i64 x)))]
  caps := fun x => []
  res := x113.res
  outs := x113.outs
  R := fun x y => Rn c113 (a113 x) y
  ok := fun x y h => sysA (cx := x113) follow func113 (h113 x) (g113) y h
  flat := true
  hflat := fun _ _ => flatE rfl
noncomputable def b112 : Code := f112.body.getD .skip
noncomputable def x112 : Cx Empty Bool where
  nt := 6
  rvs := [.tmp 2]
  mh := []
  res := fun y => [.one (.c (.bool y))]
  outs := fun y => []
  path := nofun
  sig := nofun
  snap := nofun
noncomputable def a112 (kind_0 : Int) : Cert prog Empty Bool :=
 .call m113 kind_0 fun r1 =>
 .ret (decide (0 < r1))
noncomputable def c112 : Empty → Cert prog Empty Bool := nofun
theorem h112 (kind_0 : Int) : tp prog x112 b112 (a112 kind_0) (ES.init [.val (.one (.c (.int .i64 kind_0)))]) :=
  of_triv (rs := x112.rs) (snap := x112.snap) (c := a112 kind_0) (by kernel_rfl)
theorem g112 : ∀ j, ck prog x112 b112 c112 j := nofun
noncomputable def m112 : Mir prog 112 Int Bool where
  fs := [.one none]
  ga := fun x => [.val (.one (.c (.int .i64 x)))]
  caps := fun x => []
  res := x112.res
  outs := x112.outs
  R := fun x y => Rn c112 (a112 x) y
  ok := fun x y h => sysA (cx := x112) follow func112 (h112 x) (g112) y h
  flat := true
  hflat := fun _ _ => flatE rfl
noncomputable def b166 : Code := f166.body.getD .skip
noncomputable def x166 : Cx Empty Bool where
  nt := 15
  rvs := [.tmp 6]
  mh := []
  res := fun y => [.one (.c (.bool y))]
  outs := fun y => []
  path := nofun
  sig := nofun
  snap := nofun
noncomputable def a166 (n_0 : Int) (low_1 : Int) (high_2 : Int) : Cert prog Empty Bool :=
 .ite 10 (decide (low_1 ≤ n_0))
 (.ret (decide (n_0 ≤ high_2)))
 (.ret false)
noncomputable def c166 : Empty → Cert prog Empty Bool := nofun
theorem h166 (n_0 : Int) (low_1 : Int) (high_2 : Int) : tp prog x166 b166 (a166 n_0 low_1 high_2) (ES.init [.val (.one (.c (.int .i64 n_0))), .val (.one (.c (.int .i64 low_1))), .val (.one (.c (.int .i64 high_2)))]) :=
  of_triv (rs := x166.rs) (snap := x166.snap) (c := a166 n_0 low_1 high_2) (by kernel_rfl)
theorem g166 : ∀ j, ck prog x166 b166 c166 j := nofun
noncomputable def m166 : Mir prog 166 (Int × Int × Int) Bool where
  fs := [.one none, .one none, .one none]
  ga := fun x => [.val (.one (.c (.int .i64 x.1))), .val (.one (.c (.int .i64 x.2.1))), .val (.one (.c (.int .i64 x.2.2)))]
  caps := fun x => []
  res := x166.res
  outs := x166.outs
  R := fun x y => Rn c166 (a166 x.1 x.2.1 x.2.2) y
  ok := fun x y h => sysA (cx := x166) follow func166 (h166 x.1 x.2.1 x.2.2) (g166) y h
  flat := true
  hflat := fun _ _ => flatE rfl
inductive J212 where
| s0 (t2 : Gfields) (t3 : Int) (t10 : Bool)
| s1 (t2 : Gfields) (t3 : Int) (t21 : Bool)
| s2 (t2 : Gfields) (t3 : Int) (t26 : Bool)
| s3 (t2 : Gfields) (t3 : Int) (t33 : Bool)
noncomputable def b212 : Code := f212.body.getD .skip
noncomputable def x212 : Cx J212 Gfields where
  nt := 85
  rvs := [.cell 2 185]
  mh := []
  res := fun y => [.agg ((Gfields.cs y).map R.c)]
  outs := fun y => []
  path := fun
    | .s0 _ _ _ => [1, 1, 1, 1, 1, 0, 1, 0, 1]
    | .s1 _ _ _ => [1, 1, 1, 1, 1, 1, 1, 1, 1, 1, 1, 0, 1, 0, 1]
    | .s2 _ _ _ => [1, 1, 1, 1, 1, 1, 1, 1, 1, 1, 1, 1, 1, 0, 1, 0, 1]
    | .s3 _ _ _ => [1, 1, 1, 1, 1, 1, 1, 1, 1, 1, 1, 1, 1, 1, 1, 1, 1, 0, 1, 0, 1]
  sig := fun
    | .s0 _ _ _ => [2, 3, 10]
    | .s1 _ _ _ => [2, 3, 21]
    | .s2 _ _ _ => [2, 3, 26]
    | .s3 _ _ _ => [2, 3, 33]
  snap := fun
    | .s0 t2 t3 t10 => ⟨[(2, .one (.ptr 0 1 0)), (3, .one (.c (.int .i64 t3))), (10, .one (.c (.bool t10)))], [((0, 1), .box ((Gfields.cs t2).map A.c))]⟩
    | .s1 t2 t3 t21 => ⟨[(2, .one (.ptr 0 1 0)), (3, .one (.c (.int .i64 t3))), (21, .one (.c (.bool t21)))], [((0, 1), .box ((Gfields.cs t2).map A.c))]⟩
    | .s2 t2 t3 t26 => ⟨[(2, .one (.ptr 0 1 0)), (3, .one (.c (.int .i64 t3))), (26, .one (.c (.bool t26)))], [((0, 1), .box ((Gfields.cs t2).map A.c))]⟩
    | .s3 t2 t3 t33 => ⟨[(2, .one (.ptr 0 1 0)), (3, .one (.c (.int .i64 t3))), (33, .one (.c (.bool t33)))], [((0, 1), .box ((Gfields.cs t2).map A.c))]⟩
noncomputable def a212 (kind_0 : Int) : Cert prog J212 Gfields :=
 .ite 4 (kind_0 == 1)
 (.ret (Gfields.mk false false true false true true true false))
 (.ite 7 (kind_0 == 2)
 (.ret (Gfields.mk false false true false false false false false))
 (.ite 10 (kind_0 == 3)
 (.jump (.s0 (Gfields.mk false false false false false false false false) kind_0 true) [(2000, 1)])
 (.ite 10 (kind_0 == 4)
 (.jump (.s0 (Gfields.mk false false false false false false false false) kind_0 true) [(2000, 1)])
 (.jump (.s0 (Gfields.mk false false false false false false false false) kind_0 (kind_0 == 6)) [(2000, 1)]))))
noncomputable def c212 : J212 → Cert prog J212 Gfields
| .s0 t2 t3 t10 =>
 .ite 10 t10
 (.ret (Gfields.mk false true false false false false false false))
 (.ite 15 (t3 == 5)
 (.ret (Gfields.mk false true false true false false false false))
 (.ite 18 (t3 == 8)
 (.ret (Gfields.mk true true true false false false false false))
 (.ite 21 (t3 == 9)
 (.jump (.s1 t2 t3 true) [(0, 1)])
 (.ite 21 (t3 == 13)
 (.jump (.s1 t2 t3 true) [(0, 1)])
 (.jump (.s1 t2 t3 (t3 == 21)) [(0, 1)])))))
| .s1 t2 t3 t21 =>
 .ite 21 t21
 (.ret (Gfields.mk true true false false false false true false))
 (.ite 26 (t3 == 10)
 (.jump (.s2 t2 t3 true) [(0, 1)])
 (.jump (.s2 t2 t3 (t3 == 22)) [(0, 1)]))
| .s2 t2 t3 t26 =>
 .ite 26 t26
 (.ret (Gfields.mk true true false false true false true false))
 (.ite 30 (t3 == 11)
 (.ret (Gfields.mk true true false true false false false false))
 (.ite 33 (t3 == 15)
 (.jump (.s3 t2 t3 true) [(0, 1)])
 (.ite 33 (t3 == 24)
 (.jump (.s3 t2 t3 true) [(0, 1)])
 (.ite 33 (t3 == 12)
 (.jump (.s3 t2 t3 true) [(0, 1)])
 (.jump (.s3 t2 t3 (t3 == 16)) [(0, 1)])))))
| .s3 t2 t3 t33 =>
 .ite 33 t33
 (.ret (Gfields.mk true true false false false false false false))
 (.ite 39 (t3 == 17)
 (.ret (Gfields.mk false false false false true true true false))
 (.ite 42 (t3 == 20)
 (.ret (Gfields.mk true true false false false true false false))
 (.ite 45 (t3 == 25)
 (.ret (Gfields.mk true true false false true false false false))
 (.ite 48 (t3 == 26)
 (.ret (Gfields.mk false false false false false true false false))
 (.ite 51 (t3 == 33)
 (.ret (Gfields.mk false false false false true false false false))
 (.ite 54 (t3 == 7)
 (.ret (Gfields.mk true false false false true false true true))
 (.ite 57 (t3 == 14)
 (.ret (Gfields.mk true false true false false false false false))
 (.ite 60 (t3 == 19)
 (.ret (Gfields.mk true false true false true true true false))
 (.ite 63 (t3 == 23)
 (.ret (Gfields.mk true false false false true true true false))
 (.ite 66 (t3 == 18)
 (.ret (Gfields.mk false false true false true false true false))
 (.ite 69 (t3 == 27)
 (.ret (Gfields.mk false false false false true true true false))
 (.ite 72 (t3 == 28)
 (.ret (Gfields.mk false false true false false true true false))
 (.ite 75 (t3 == 31)
 (.ret (Gfields.mk false false false false true false true false))
 (.ite 78 (t3 == 29)
 (.ret (Gfields.mk false false false false false false true false))
 (.ite 78 (t3 == 30)
 (.ret (Gfields.mk false false false false false false true false))
 (.ite 78 (t3 == 32)
 (.ret (Gfields.mk false false false false false false true false))
 (.ite 78 (t3 == 35)
 (.ret (Gfields.mk false false false false false false true false))
 (.ret (Gfields.mk false false false false false false false false)))))))))))))))))))
theorem h212 (kind_0 : Int) : tp prog x212 b212 (a212 kind_0) (ES.init [.val (.one (.c (.int .i64 kind_0)))]) :=
  of_triv (rs := x212.rs) (snap := x212.snap) (c := a212 kind_0) (by kernel_rfl)
theorem g212 : ∀ j, ck prog x212 b212 c212 j
| .s0 t2 t3 t10 => of_triv (rs := x212.rs) (snap := x212.snap) (c := c212 (.s0 t2 t3 t10)) (by kernel_rfl)
| .s1 t2 t3 t21 => of_triv (rs := x212.rs) (snap := x212.snap) (c := c212 (.s1 t2 t3 t21)) (by kernel_rfl)
| .s2 t2 t3 t26 => of_triv (rs := x212.rs) (snap := x212.snap) (c := c212 (.s2 t2 t3 t26)) (by kernel_rfl)
| .s3 t2 t3 t33 => of_triv (rs := x212.rs) (snap := x212.snap) (c := c212 (.s3 t2 t3 t33)) (by kernel_rfl)
noncomputable def m212 : Mir prog 212 Int Gfields where
  fs := [.one none]
  ga := fun x => [.val (.one (.c (.int .i64 x)))]
  caps := fun x => []
  res := x212.res
  outs := x212.outs
  R := fun x y => Rn c212 (a212 x) y
  ok := fun x y h => sysA (cx := x212) follow func212 (h212 x) (g212) y h
  flat := false
  hflat := nofun
inductive J167 where
| s0 (e_t1 : GEvent) (u_t3 : Gfields)
| s1 (e_t1 : GEvent) (u_t3 : Gfields)
| s2 (e_t1 : GEvent) (u_t3 : Gfields)
noncomputable def b167 : Code := f167.body.getD .skip
noncomputable def x167 : Cx J167 Bool where
  nt := 106
  rvs := [.tmp 2]
  mh := []
  res := fun y => [.one (.c (.bool y))]
  outs := fun y => []
  path := fun
    | .s0 _ _ => [1, 1, 1]
    | .s1 _ _ => [1, 1, 1, 1]
    | .s2 _ _ => [1, 1, 1, 1, 1]
  sig := fun
    | .s0 _ _ => [1, 3]
    | .s1 _ _ => [1, 3]
    | .s2 _ _ => [1, 3]
  snap := fun
    | .s0 e_t1 u_t3 => ⟨[(1, .one (.ptr 0 1 0)), (3, .one (.ptr 1 1 0))], [((0, 1), .box ((GEvent.cs e_t1).map A.c)), ((1, 1), .box ((Gfields.cs u_t3).map A.c))]⟩
    | .s1 e_t1 u_t3 => ⟨[(1, .one (.ptr 0 1 0)), (3, .one (.ptr 1 1 0))], [((0, 1), .box ((GEvent.cs e_t1).map A.c)), ((1, 1), .box ((Gfields.cs u_t3).map A.c))]⟩
    | .s2 e_t1 u_t3 => ⟨[(1, .one (.ptr 0 1 0)), (3, .one (.ptr 1 1 0))], [((0, 1), .box ((GEvent.cs e_t1).map A.c)), ((1, 1), .box ((Gfields.cs u_t3).map A.c))]⟩
noncomputable def a167 (e_0 : GEvent) : Cert prog J167 Bool :=
 .call m212 e_0.Kind fun r1 =>
 .ite 9 r1.seq
 (.call m166 (e_0.Seq, 1, 2000) fun r2 =>
 .ite 15 (!r2)
 (.ret false)
 (.ite 19 (!r1.seq)
 (.ite 25 (e_0.Seq != 0)
 (.ret false)
 (.ite 28 r1.ref
 (.call m166 (e_0.Ref, 1, 2000) fun r3 =>
 .ite 35 (!r3)
 (.ret false)
 (.ite 39 (!r1.ref)
 (.ite 44 (e_0.Ref != 0)
 (.ret false)
 (.jump (.s0 e_0 r1) [(1000, 1), (3000, 1)]))
 (.jump (.s0 e_0 r1) [(1000, 1), (3000, 1)])))
 (.ite 39 (!r1.ref)
 (.ite 44 (e_0.Ref != 0)
 (.ret false)
 (.jump (.s0 e_0 r1) [(1000, 1), (3000, 1)]))
 (.jump (.s0 e_0 r1) [(1000, 1), (3000, 1)]))))
 (.ite 28 r1.ref
 (.call m166 (e_0.Ref, 1, 2000) fun r4 =>
 .ite 35 (!r4)
 (.ret false)
 (.ite 39 (!r1.ref)
 (.ite 44 (e_0.Ref != 0)
 (.ret false)
 (.jump (.s0 e_0 r1) [(1000, 1), (3000, 1)]))
 (.jump (.s0 e_0 r1) [(1000, 1), (3000, 1)])))
 (.ite 39 (!r1.ref)
 (.ite 44 (e_0.Ref != 0)
 (.ret false)
 (.jump (.s0 e_0 r1) [(1000, 1), (3000, 1)]))
 (.jump (.s0 e_0 r1) [(1000, 1), (3000, 1)])))))
 (.ite 19 (!r1.seq)
 (.ite 25 (e_0.Seq != 0)
 (.ret false)
 (.ite 28 r1.ref
 (.call m166 (e_0.Ref, 1, 2000) fun r5 =>
 .ite 35 (!r5)
 (.ret false)
 (.ite 39 (!r1.ref)
 (.ite 44 (e_0.Ref != 0)
 (.ret false)
 (.jump (.s0 e_0 r1) [(1000, 1), (3000, 1)]))
 (.jump (.s0 e_0 r1) [(1000, 1), (3000, 1)])))
 (.ite 39 (!r1.ref)
 (.ite 44 (e_0.Ref != 0)
 (.ret false)
 (.jump (.s0 e_0 r1) [(1000, 1), (3000, 1)]))
 (.jump (.s0 e_0 r1) [(1000, 1), (3000, 1)]))))
 (.ite 28 r1.ref
 (.call m166 (e_0.Ref, 1, 2000) fun r6 =>
 .ite 35 (!r6)
 (.ret false)
 (.ite 39 (!r1.ref)
 (.ite 44 (e_0.Ref != 0)
 (.ret false)
 (.jump (.s0 e_0 r1) [(1000, 1), (3000, 1)]))
 (.jump (.s0 e_0 r1) [(1000, 1), (3000, 1)])))
 (.ite 39 (!r1.ref)
 (.ite 44 (e_0.Ref != 0)
 (.ret false)
 (.jump (.s0 e_0 r1) [(1000, 1), (3000, 1)]))
 (.jump (.s0 e_0 r1) [(1000, 1), (3000, 1)]))))
noncomputable def c167 : J167 → Cert prog J167 Bool
| .s0 e_t1 u_t3 =>
 .ite 48 (!u_t3.n)
 (.ite 53 (e_t1.N != 0)
 (.ret false)
 (.ite 57 (!u_t3.code)
 (.ite 63 (e_t1.Code != 0)
 (.ret false)
 (.ite 67 (!u_t3.name)
 (.ite 73 (!strEq e_t1.Name eB)
 (.ret false)
 (.ite 77 (!u_t3.key)
 (.ite 82 (!strEq e_t1.Key eB)
 (.ret false)
 (.jump (.s1 e_t1 u_t3) [(0, 1), (1, 1)]))
 (.jump (.s1 e_t1 u_t3) [(0, 1), (1, 1)])))
 (.ite 77 (!u_t3.key)
 (.ite 82 (!strEq e_t1.Key eB)
 (.ret false)
 (.jump (.s1 e_t1 u_t3) [(0, 1), (1, 1)]))
 (.jump (.s1 e_t1 u_t3) [(0, 1), (1, 1)]))))
 (.ite 67 (!u_t3.name)
 (.ite 73 (!strEq e_t1.Name eB)
 (.ret false)
 (.ite 77 (!u_t3.key)
 (.ite 82 (!strEq e_t1.Key eB)
 (.ret false)
 (.jump (.s1 e_t1 u_t3) [(0, 1), (1, 1)]))
 (.jump (.s1 e_t1 u_t3) [(0, 1), (1, 1)])))
 (.ite 77 (!u_t3.key)
 (.ite 82 (!strEq e_t1.Key eB)
 (.ret false)
 (.jump (.s1 e_t1 u_t3) [(0, 1), (1, 1)]))
 (.jump (.s1 e_t1 u_t3) [(0, 1), (1, 1)])))))
 (.ite 57 (!u_t3.code)
 (.ite 63 (e_t1.Code != 0)
 (.ret false)
 (.ite 67 (!u_t3.name)
 (.ite 73 (!strEq e_t1.Name eB)
 (.ret false)
 (.ite 77 (!u_t3.key)
 (.ite 82 (!strEq e_t1.Key eB)
 (.ret false)
 (.jump (.s1 e_t1 u_t3) [(0, 1), (1, 1)]))
 (.jump (.s1 e_t1 u_t3) [(0, 1), (1, 1)])))
 (.ite 77 (!u_t3.key)
 (.ite 82 (!strEq e_t1.Key eB)
 (.ret false)
 (.jump (.s1 e_t1 u_t3) [(0, 1), (1, 1)]))
 (.jump (.s1 e_t1 u_t3) [(0, 1), (1, 1)]))))
 (.ite 67 (!u_t3.name)
 (.ite 73 (!strEq e_t1.Name eB)
 (.ret false)
 (.ite 77 (!u_t3.key)
 (.ite 82 (!strEq e_t1.Key eB)
 (.ret false)
 (.jump (.s1 e_t1 u_t3) [(0, 1), (1, 1)]))
 (.jump (.s1 e_t1 u_t3) [(0, 1), (1, 1)])))
 (.ite 77 (!u_t3.key)
 (.ite 82 (!strEq e_t1.Key eB)
 (.ret false)
 (.jump (.s1 e_t1 u_t3) [(0, 1), (1, 1)]))
 (.jump (.s1 e_t1 u_t3) [(0, 1), (1, 1)]))))
| .s1 e_t1 u_t3 =>
 .call m158 e_t1.Data fun r7 =>
 .ite 87 (!r7)
 (.ret false)
 (.ite 91 (!u_t3.data)
 (.ite 97 (e_t1.Data.Kind != 0)
 (.ret false)
 (.jump (.s2 e_t1 u_t3) [(0, 1), (1, 1)]))
 (.jump (.s2 e_t1 u_t3) [(0, 1), (1, 1)]))
| .s2 e_t1 u_t3 =>
 .ite 100 u_t3.opts
 (.ret true)
 (.call m145 (e_t1.Opts, zO) fun r8 =>
 .ret r8)
theorem h167 (e_0 : GEvent) : tp prog x167 b167 (a167 e_0) (ES.init [.val (.agg ((GEvent.cs e_0).map R.c))]) :=
  of_triv (rs := x167.rs) (snap := x167.snap) (c := a167 e_0) (by kernel_rfl)
theorem g167 : ∀ j, ck prog x167 b167 c167 j
| .s0 e_t1 u_t3 => of_triv (rs := x167.rs) (snap := x167.snap) (c := c167 (.s0 e_t1 u_t3)) (by kernel_rfl)
| .s1 e_t1 u_t3 => of_triv (rs := x167.rs) (snap := x167.snap) (c := c167 (.s1 e_t1 u_t3)) (by kernel_rfl)
| .s2 e_t1 u_t3 => of_triv (rs := x167.rs) (snap := x167.snap) (c := c167 (.s2 e_t1 u_t3)) (by kernel_rfl)
noncomputable def m167 : Mir prog 167 GEvent Bool where
  fs := [.agg (List.replicate 24 none)]
  ga := fun x => [.val (.agg ((GEvent.cs x).map R.c))]
  caps := fun x => []
  res := x167.res
  outs := x167.outs
  R := fun x y => Rn c167 (a167 x) y
  ok := fun x y h => sysA (cx := x167) follow func167 (h167 x) (g167) y h
  flat := true
  hflat := fun _ _ => flatE rfl
noncomputable def b168 : Code := f168.body.getD .skip
noncomputable def x168 : Cx Empty GCommand where
  nt := 19
  rvs := [.cell 2 83]
  mh := []
  res := fun y => [.agg ((GCommand.cs y).map R.c)]
  outs := fun y => []
  path := nofun
  sig := nofun
  snap := nofun
noncomputable def a168 (e_0 : GEvent) : Cert prog Empty GCommand :=
 .call m113 e_0.Kind fun r1 =>
 .ret (GCommand.mk r1 e_0.Seq e_0.Name e_0.Key e_0.N e_0.Data e_0.Opts)
noncomputable def c168 : Empty → Cert prog Empty GCommand := nofun
theorem h168 (e_0 : GEvent) : tp prog x168 b168 (a168 e_0) (ES.init [.val (.agg ((GEvent.cs e_0).map R.c))]) :=
  of_triv (rs := x168.rs) (snap := x168.snap) (c := a168 e_0) (by kernel_rfl)
theorem g168 : ∀ j, ck prog x168 b168 c168 j := nofun
noncomputable def m168 : Mir prog 168 GEvent GCommand where
  fs := [.agg (List.replicate 24 none)]
  ga := fun x => [.val (.agg ((GEvent.cs x).map R.c))]
  caps := fun x => []
  res := x168.res
  outs := x168.outs
  R := fun x y => Rn c168 (a168 x) y
  ok := fun x y h => sysA (cx := x168) follow func168 (h168 x) (g168) y h
  flat := false
  hflat := nofun
inductive J169 where
| s0 (s_t0 : ByteArray) (i_t3 : Int)
noncomputable def b169 : Code := f169.body.getD .skip
noncomputable def x169 : Cx J169 Bool where
  nt := 40
  rvs := [.tmp 2]
  mh := []
  res := fun y => [.one (.c (.bool y))]
  outs := fun y => []
  path := fun
    | .s0 _ _ => [0, 1, 0, 1]
  sig := fun
    | .s0 _ _ => [0, 3]
  snap := fun
    | .s0 s_t0 i_t3 => ⟨[(0, .one (.c (.str s_t0))), (3, .one (.c (.int .i64 i_t3)))], []⟩
noncomputable def a169 (s_0 : ByteArray) : Cert prog J169 Bool :=
 .jump (.s0 s_0 0) []
noncomputable def c169 : J169 → Cert prog J169 Bool
| .s0 s_t0 i_t3 =>
 .ite 7 (decide (i_t3 < (s_t0.size : Int)))
 (.byte s_t0 i_t3 <|
 .ite 14 (decide ((byteAt s_t0 i_t3.toNat) < 33))
 (.ret false)
 (.byte s_t0 i_t3 <|
 .ite 20 (decide (126 < (byteAt s_t0 i_t3.toNat)))
 (.ret false)
 (.byte s_t0 i_t3 <|
 .ite 26 ((byteAt s_t0 i_t3.toNat) == 47)
 (.ret false)
 (.byte s_t0 i_t3 <|
 .ite 31 ((byteAt s_t0 i_t3.toNat) == 34)
 (.ret false)
 (.jump (.s0 s_t0 (IntKind.i64.wrap (i_t3 + 1))) [])))))
 (.ite 35 (decide (1 ≤ (s_t0.size : Int)))
 (.ret (decide ((s_t0.size : Int) ≤ 64)))
 (.ret false))
theorem h169 (s_0 : ByteArray) : tp prog x169 b169 (a169 s_0) (ES.init [.val (.one (.c (.str s_0)))]) :=
  of_triv (rs := x169.rs) (snap := x169.snap) (c := a169 s_0) (by kernel_rfl)
theorem g169 : ∀ j, ck prog x169 b169 c169 j
| .s0 s_t0 i_t3 => of_triv (rs := x169.rs) (snap := x169.snap) (c := c169 (.s0 s_t0 i_t3)) (by kernel_rfl)
noncomputable def m169 : Mir prog 169 ByteArray Bool where
  fs := [.one none]
  ga := fun x => [.val (.one (.c (.str x)))]
  caps := fun x => []
  res := x169.res
  outs := x169.outs
  R := fun x y => Rn c169 (a169 x) y
  ok := fun x y h => sysA (cx := x169) follow func169 (h169 x) (g169) y h
  flat := true
  hflat := fun _ _ => flatE rfl
inductive J170 where
| s0 (l_t3 : List GVal) (i_t4 : Int)
noncomputable def b170 : Code := f170.body.getD .skip
noncomputable def x170 : Cx J170 Bool where
  nt := 76
  rvs := [.tmp 2]
  mh := []
  res := fun y => [.one (.c (.bool y))]
  outs := fun y => []
  path := fun
    | .s0 _ _ => [0, 1, 0, 1, 1, 1]
  sig := fun
    | .s0 _ _ => [3, 4]
  snap := fun
    | .s0 l_t3 i_t4 => ⟨[(3, .one (.c (.sl (E.GVal.L l_t3)))), (4, .one (.c (.int .i64 i_t4)))], []⟩
noncomputable def a170 (v_0 : GVal) : Cert prog J170 Bool :=
 .call m158 v_0 fun r1 =>
 .ite 8 (!r1)
 (.ret false)
 (.ite 13 (v_0.Kind != 4)
 (.ret false)
 (.len E.GVal v_0.Items <|
 .ite 19 ((v_0.Items.length : Int) != 2)
 (.ret false)
 (.elem E.GVal v_0.Items 1 fun a2 =>
 .ite 26 (a2.Kind != 4)
 (.ret false)
 (.elem E.GVal v_0.Items 1 fun a3 =>
 .jump (.s0 a3.Items 0) []))))
noncomputable def c170 : J170 → Cert prog J170 Bool
| .s0 l_t3 i_t4 =>
 .len E.GVal l_t3 <|
 .ite 35 (decide (i_t4 < (l_t3.length : Int)))
 (.elem E.GVal l_t3 i_t4 fun a4 =>
 .ite 44 (a4.Kind != 4)
 (.ret false)
 (.elem E.GVal l_t3 i_t4 fun a5 =>
 .len E.GVal a5.Items <|
 .ite 53 ((a5.Items.length : Int) != 2)
 (.ret false)
 (.elem E.GVal l_t3 i_t4 fun a6 =>
 .elem E.GVal a6.Items 0 fun a7 =>
 .ite 64 (a7.Kind != 3)
 (.ret false)
 (.elem E.GVal l_t3 i_t4 fun a8 =>
 .elem E.GVal a8.Items 0 fun a9 =>
 .call m159 a9.Text fun r10 =>
 .ite 75 (!r10)
 (.ret false)
 (.jump (.s0 l_t3 (IntKind.i64.wrap (i_t4 + 1))) [])))))
 (.ret true)
theorem h170 (v_0 : GVal) : tp prog x170 b170 (a170 v_0) (ES.init [.val (.agg ((GVal.cs v_0).map R.c))]) :=
  of_triv (rs := x170.rs) (snap := x170.snap) (c := a170 v_0) (by kernel_rfl)
theorem g170 : ∀ j, ck prog x170 b170 c170 j
| .s0 l_t3 i_t4 => of_triv (rs := x170.rs) (snap := x170.snap) (c := c170 (.s0 l_t3 i_t4)) (by kernel_rfl)
noncomputable def m170 : Mir prog 170 GVal Bool where
  fs := [.agg (List.replicate 5 none)]
  ga := fun x => [.val (.agg ((GVal.cs x).map R.c))]
  caps := fun x => []
  res := x170.res
  outs := x170.outs
  R := fun x y => Rn c170 (a170 x) y
  ok := fun x y h => sysA (cx := x170) follow func170 (h170 x) (g170) y h
  flat := true
  hflat := fun _ _ => flatE rfl
abbrev O257 (Q : Int → ByteArray → Prop) : Prop := ∀ x y, Q x y → SpecG prog 257 ([.val (.one (.c (.int .i64 x)))] ++ ([] : List C).map fun c => .val (.one (.c c))) [.one (.c (.str y))] []
noncomputable def w257 (Q : Int → ByteArray → Prop) (ok : O257 Q) : Mir prog 257 Int ByteArray where
  fs := [.one none]
  ga := fun x => [.val (.one (.c (.int .i64 x)))]
  caps := fun x => []
  res := fun y => [.one (.c (.str y))]
  outs := fun y => []
  R := Q
  ok := ok
  flat := true
  hflat := fun _ _ => flatE rfl
noncomputable def b257 : Code := f257.body.getD .skip
noncomputable def x257 : Cx Empty ByteArray where
  nt := 21
  rvs := [.tmp 2]
  mh := []
  res := fun y => [.one (.c (.str y))]
  outs := fun y => []
  path := nofun
  sig := nofun
  snap := nofun
noncomputable def a257 (R257 : Int → ByteArray → Prop) (ok257 : O257 R257) (n_0 : Int) : Cert prog Empty ByteArray :=
 .dvd 10 <|
 .bld E.u8 [(IntKind.u8.wrap (IntKind.i64.wrap (48 + (IntKind.i64.wrap (0 - (Int.tmod n_0 10))))))] <|
 .frzo 12 11000 1 <|
 .unby [(IntKind.u8.wrap (IntKind.i64.wrap (48 + (IntKind.i64.wrap (0 - (Int.tmod n_0 10))))))] <|
 .ite 14 (decide ((-10) < n_0))
 (.ret (strOfNums [(IntKind.u8.wrap (IntKind.i64.wrap (48 + (IntKind.i64.wrap (0 - (Int.tmod n_0 10))))))]))
 (.dvd 10 <|
 .call (w257 R257 ok257) (IntKind.i64.wrap (Int.tdiv n_0 10)) fun r1 =>
 .cat r1 (strOfNums [(IntKind.u8.wrap (IntKind.i64.wrap (48 + (IntKind.i64.wrap (0 - (Int.tmod n_0 10))))))]) <|
 .ret (r1 ++ (strOfNums [(IntKind.u8.wrap (IntKind.i64.wrap (48 + (IntKind.i64.wrap (0 - (Int.tmod n_0 10))))))])))
noncomputable def c257 (R257 : Int → ByteArray → Prop) (ok257 : O257 R257) : Empty → Cert prog Empty ByteArray := nofun
theorem h257 (R257 : Int → ByteArray → Prop) (ok257 : O257 R257) (n_0 : Int) : tp prog x257 b257 (a257 R257 ok257 n_0) (ES.init [.val (.one (.c (.int .i64 n_0)))]) :=
  of_triv (rs := x257.rs) (snap := x257.snap) (c := a257 R257 ok257 n_0) (by kernel_rfl)
theorem g257 (R257 : Int → ByteArray → Prop) (ok257 : O257 R257) : ∀ j, chkAt prog x257 b257 (x257.path j) ((c257 R257 ok257) j) (x257.snap j).es := nofun
noncomputable def n257 : Nat → {Q : Int → ByteArray → Prop // O257 Q}
| 0 => ⟨fun _ _ => False, fun _ _ h => h.elim⟩
| n + 1 => ⟨fun x y => Runs (a257 (n257 n).1 (n257 n).2 x) (KOf (fun j => Ev (c257 (n257 n).1 (n257 n).2) j y) y), fun x y h => sysA (cx := x257) follow func257 (h257 (n257 n).1 (n257 n).2 x) (g257 (n257 n).1 (n257 n).2) y h⟩
noncomputable def m257 : Mir prog 257 Int ByteArray := w257 (fun x y => ∃ n, (n257 n).1 x y) (fun x y h => (n257 h.choose).2 x y h.choose_spec)
noncomputable def b238 : Code := f238.body.getD .skip
noncomputable def x238 : Cx Empty ByteArray where
  nt := 11
  rvs := [.tmp 2]
  mh := []
  res := fun y => [.one (.c (.str y))]
  outs := fun y => []
  path := nofun
  sig := nofun
  snap := nofun
noncomputable def a238 (n_0 : Int) : Cert prog Empty ByteArray :=
 .ite 4 (decide (n_0 < 0))
 (.call m257 n_0 fun r1 =>
 .cat (⟨#[45]⟩ : ByteArray) r1 <|
 .ret ((⟨#[45]⟩ : ByteArray) ++ r1))
 (.call m257 (IntKind.i64.wrap (0 - n_0)) fun r2 =>
 .ret r2)
noncomputable def c238 : Empty → Cert prog Empty ByteArray := nofun
theorem h238 (n_0 : Int) : tp prog x238 b238 (a238 n_0) (ES.init [.val (.one (.c (.int .i64 n_0)))]) :=
  of_triv (rs := x238.rs) (snap := x238.snap) (c := a238 n_0) (by kernel_rfl)
theorem g238 : ∀ j, ck prog x238 b238 c238 j := nofun
noncomputable def m238 : Mir prog 238 Int ByteArray where
  fs := [.one none]
  ga := fun x => [.val (.one (.c (.int .i64 x)))]
  caps := fun x => []
  res := x238.res
  outs := x238.outs
  R := fun x y => Rn c238 (a238 x) y
  ok := fun x y h => sysA (cx := x238) follow func238 (h238 x) (g238) y h
  flat := true
  hflat := fun _ _ => flatE rfl
noncomputable def b213 : Code := f213.body.getD .skip
noncomputable def x213 : Cx Empty ByteArray where
  nt := 8
  rvs := [.tmp 2]
  mh := []
  res := fun y => [.one (.c (.str y))]
  outs := fun y => []
  path := nofun
  sig := nofun
  snap := nofun
noncomputable def a213 (n_0 : Int) : Cert prog Empty ByteArray :=
 .ite 4 (decide (n_0 < 1))
 (.ret eB)
 (.call m238 n_0 fun r1 =>
 .cat (⟨#[114]⟩ : ByteArray) r1 <|
 .ret ((⟨#[114]⟩ : ByteArray) ++ r1))
noncomputable def c213 : Empty → Cert prog Empty ByteArray := nofun
theorem h213 (n_0 : Int) : tp prog x213 b213 (a213 n_0) (ES.init [.val (.one (.c (.int .i64 n_0)))]) :=
  of_triv (rs := x213.rs) (snap := x213.snap) (c := a213 n_0) (by kernel_rfl)
theorem g213 : ∀ j, ck prog x213 b213 c213 j := nofun
noncomputable def m213 : Mir prog 213 Int ByteArray where
  fs := [.one none]
  ga := fun x => [.val (.one (.c (.int .i64 x)))]
  caps := fun x => []
  res := x213.res
  outs := x213.outs
  R := fun x y => Rn c213 (a213 x) y
  ok := fun x y h => sysA (cx := x213) follow func213 (h213 x) (g213) y h
  flat := true
  hflat := fun _ _ => flatE rfl
inductive J171 where
| s0 (run_t0 : ByteArray) (n_t4 : Int) (i_t5 : Int)
| s1 (run_t0 : ByteArray) (n_t4 : Int)
noncomputable def b171 : Code := f171.body.getD .skip
noncomputable def x171 : Cx J171 (Int × Bool) where
  nt := 34
  rvs := [.tmp 2, .tmp 3]
  mh := []
  res := fun y => [.one (.c (.int .i64 y.1)), .one (.c (.bool y.2))]
  outs := fun y => []
  path := fun
    | .s0 _ _ _ => [0, 1, 0, 1, 1]
    | .s1 _ _ => [1, 1, 1]
  sig := fun
    | .s0 _ _ _ => [0, 4, 5]
    | .s1 _ _ => [0, 4]
  snap := fun
    | .s0 run_t0 n_t4 i_t5 => ⟨[(0, .one (.c (.str run_t0))), (4, .one (.c (.int .i64 n_t4))), (5, .one (.c (.int .i64 i_t5)))], []⟩
    | .s1 run_t0 n_t4 => ⟨[(0, .one (.c (.str run_t0))), (4, .one (.c (.int .i64 n_t4)))], []⟩
noncomputable def a171 (run_0 : ByteArray) : Cert prog J171 (Int × Bool) :=
 .jump (.s0 run_0 0 1) []
noncomputable def c171 : J171 → Cert prog J171 (Int × Bool)
| .s0 run_t0 n_t4 i_t5 =>
 .ite 10 (decide (i_t5 < (run_t0.size : Int)))
 (.ite 14 (decide ((run_t0.size : Int) ≤ 20))
 (.byte run_t0 i_t5 <|
 .jump (.s0 run_t0 (IntKind.i64.wrap ((IntKind.i64.wrap ((IntKind.i64.wrap (10 * n_t4)) + (IntKind.i64.wrap (byteAt run_t0 i_t5.toNat)))) - 48)) (IntKind.i64.wrap (i_t5 + 1))) [])
 (.jump (.s1 run_t0 n_t4) []))
 (.jump (.s1 run_t0 n_t4) [])
| .s1 run_t0 n_t4 =>
 .ite 27 (decide (n_t4 < 1))
 (.ret (0, false))
 (.call m213 n_t4 fun r1 =>
 .ite 32 (!strEq r1 run_t0)
 (.ret (0, false))
 (.ret (n_t4, true)))
theorem h171 (run_0 : ByteArray) : tp prog x171 b171 (a171 run_0) (ES.init [.val (.one (.c (.str run_0)))]) :=
  of_triv (rs := x171.rs) (snap := x171.snap) (c := a171 run_0) (by kernel_rfl)
theorem g171 : ∀ j, ck prog x171 b171 c171 j
| .s0 run_t0 n_t4 i_t5 => of_triv (rs := x171.rs) (snap := x171.snap) (c := c171 (.s0 run_t0 n_t4 i_t5)) (by kernel_rfl)
| .s1 run_t0 n_t4 => of_triv (rs := x171.rs) (snap := x171.snap) (c := c171 (.s1 run_t0 n_t4)) (by kernel_rfl)
noncomputable def m171 : Mir prog 171 ByteArray (Int × Bool) where
  fs := [.one none]
  ga := fun x => [.val (.one (.c (.str x)))]
  caps := fun x => []
  res := x171.res
  outs := x171.outs
  R := fun x y => Rn c171 (a171 x) y
  ok := fun x y h => sysA (cx := x171) follow func171 (h171 x) (g171) y h
  flat := true
  hflat := fun _ _ => flatE rfl
inductive J115 where
| s0 (e_t1 : GEvent) (t33 : Int) (t74 : Bool)
noncomputable def b115 : Code := f115.body.getD .skip
noncomputable def x115 : Cx J115 Bool where
  nt := 112
  rvs := [.tmp 2]
  mh := []
  res := fun y => [.one (.c (.bool y))]
  outs := fun y => []
  path := fun
    | .s0 _ _ _ => [1, 1, 1, 1, 1, 1, 1, 1, 1, 1, 1, 0, 1, 0, 1, 1, 1]
  sig := fun
    | .s0 _ _ _ => [1, 33, 74]
  snap := fun
    | .s0 e_t1 t33 t74 => ⟨[(1, .one (.ptr 0 1 0)), (33, .one (.c (.int .i64 t33))), (74, .one (.c (.bool t74)))], [((0, 1), .box ((GEvent.cs e_t1).map A.c))]⟩
noncomputable def a115 (e_0 : GEvent) : Cert prog J115 Bool :=
 .call m166 (e_0.Kind, 1, 35) fun r1 =>
 .ite 9 (!r1)
 (.ret false)
 (.call m166 (e_0.ID, 0, 2000) fun r2 =>
 .ite 15 (!r2)
 (.ret false)
 (.call m166 (e_0.Time, 0, 1099511627776) fun r3 =>
 .ite 21 (!r3)
 (.ret false)
 (.call m167 e_0 fun r4 =>
 .ite 25 (!r4)
 (.ret false)
 (.call m112 e_0.Kind fun r5 =>
 .ite 28 r5
 (.call m168 e_0 fun r6 =>
 .call m104 r6 fun r7 =>
 .ret r7)
 (.ite 34 (e_0.Kind == 1)
 (.call m159 e_0.Name fun r8 =>
 .ite 39 r8
 (.call m169 e_0.Key fun r9 =>
 .ite 44 r9
 (.call m170 e_0.Data fun r10 =>
 .ite 49 r10
 (.call m166 (e_0.N, 0, 4294967295) fun r11 =>
 .ret r11)
 (.ret false))
 (.ret false))
 (.ret false))
 (.ite 54 (e_0.Kind == 2)
 (.ret (decide (1 ≤ e_0.N)))
 (.ite 59 (e_0.Kind == 5)
 (.call m166 (e_0.Code, 1, 30) fun r12 =>
 .ret r12)
 (.ite 64 (e_0.Kind == 8)
 (.call m166 (e_0.N, 1, 1000) fun r13 =>
 .ret r13)
 (.ite 69 (e_0.Kind == 11)
 (.call m166 (e_0.Code, 1, 4) fun r14 =>
 .ret r14)
 (.ite 74 (e_0.Kind == 10)
 (.jump (.s0 e_0 e_0.Kind true) [(1000, 1)])
 (.ite 74 (e_0.Kind == 22)
 (.jump (.s0 e_0 e_0.Kind true) [(1000, 1)])
 (.jump (.s0 e_0 e_0.Kind (e_0.Kind == 25)) [(1000, 1)]))))))))))))
noncomputable def c115 : J115 → Cert prog J115 Bool
| .s0 e_t1 t33 t74 =>
 .ite 74 t74
 (.ret (decide ((e_t1.Name.size : Int) ≤ 4096)))
 (.ite 82 (t33 == 17)
 (.call m159 e_t1.Name fun r15 =>
 .ite 87 r15
 (.call m169 e_t1.Key fun r16 =>
 .ret r16)
 (.ret false))
 (.ite 92 (t33 == 20)
 (.call m171 e_t1.Key fun r17 =>
 .ret r17.2)
 (.ite 101 (t33 == 26)
 (.call m169 e_t1.Key fun r18 =>
 .ret r18)
 (.ite 106 (t33 == 33)
 (.ret (decide ((e_t1.Name.size : Int) ≤ 64)))
 (.ret true)))))
theorem h115 (e_0 : GEvent) : tp prog x115 b115 (a115 e_0) (ES.init [.val (.agg ((GEvent.cs e_0).map R.c))]) :=
  of_triv (rs := x115.rs) (snap := x115.snap) (c := a115 e_0) (by kernel_rfl)
theorem g115 : ∀ j, ck prog x115 b115 c115 j
| .s0 e_t1 t33 t74 => of_triv (rs := x115.rs) (snap := x115.snap) (c := c115 (.s0 e_t1 t33 t74)) (by kernel_rfl)
noncomputable def m115 : Mir prog 115 GEvent Bool where
  fs := [.agg (List.replicate 24 none)]
  ga := fun x => [.val (.agg ((GEvent.cs x).map R.c))]
  caps := fun x => []
  res := x115.res
  outs := x115.outs
  R := fun x y => Rn c115 (a115 x) y
  ok := fun x y h => sysA (cx := x115) follow func115 (h115 x) (g115) y h
  flat := true
  hflat := fun _ _ => flatE rfl
noncomputable def b172 : Code := f172.body.getD .skip
noncomputable def x172 : Cx Empty (Int × Bool) where
  nt := 17
  rvs := [.tmp 2, .tmp 3]
  mh := []
  res := fun y => [.one (.c (.int .i64 y.1)), .one (.c (.bool y.2))]
  outs := fun y => []
  path := nofun
  sig := nofun
  snap := nofun
noncomputable def a172 (kind_0 : Int) : Cert prog Empty (Int × Bool) :=
 .ite 5 (kind_0 == 30)
 (.ret (1, true))
 (.ite 7 (kind_0 == 31)
 (.ret (2, true))
 (.ite 9 (kind_0 == 32)
 (.ret (3, true))
 (.ite 11 (kind_0 == 33)
 (.ret (4, true))
 (.ite 13 (kind_0 == 34)
 (.ret (5, true))
 (.ite 15 (kind_0 == 35)
 (.ret (6, true))
 (.ret (0, false)))))))
noncomputable def c172 : Empty → Cert prog Empty (Int × Bool) := nofun
theorem h172 (kind_0 : Int) : tp prog x172 b172 (a172 kind_0) (ES.init [.val (.one (.c (.int .i64 kind_0)))]) :=
  of_triv (rs := x172.rs) (snap := x172.snap) (c := a172 kind_0) (by kernel_rfl)
theorem g172 : ∀ j, ck prog x172 b172 c172 j := nofun
noncomputable def m172 : Mir prog 172 Int (Int × Bool) where
  fs := [.one none]
  ga := fun x => [.val (.one (.c (.int .i64 x)))]
  caps := fun x => []
  res := x172.res
  outs := x172.outs
  R := fun x y => Rn c172 (a172 x) y
  ok := fun x y h => sysA (cx := x172) follow func172 (h172 x) (g172) y h
  flat := true
  hflat := fun _ _ => flatE rfl
inductive J173 where
| s0 (p_t2 : GPending) (e_t3 : GEvent) (t4 : GPending) (want_t6 : Int)
noncomputable def b173 : Code := f173.body.getD .skip
noncomputable def x173 : Cx J173 (GPending × Int) where
  nt := 52
  rvs := [.cell 4 35, .tmp 5]
  mh := []
  res := fun y => [.agg ((GPending.cs y.1).map R.c), .one (.c (.int .i64 y.2))]
  outs := fun y => []
  path := fun
    | .s0 _ _ _ _ => [1, 1, 1, 1]
  sig := fun
    | .s0 _ _ _ _ => [2, 3, 4, 6]
  snap := fun
    | .s0 p_t2 e_t3 t4 want_t6 => ⟨[(2, .one (.ptr 0 1 0)), (3, .one (.ptr 1 1 0)), (4, .one (.ptr 2 1 0)), (6, .one (.c (.int .i64 want_t6)))], [((0, 1), .box ((GPending.cs p_t2).map A.c)), ((1, 1), .box ((GEvent.cs e_t3).map A.c)), ((2, 1), .box ((((((((((((GPending.cs t4).map A.c).set 10 .nil).set 11 .nil).set 15 .nil).set 16 .nil).set 18 .nil).set 19 .nil).set 20 .nil).set 21 .nil).set 22 .nil).set 23 .nil))]⟩
noncomputable def a173 (p_0 : GPending) (e_1 : GEvent) : Cert prog J173 (GPending × Int) :=
 .ite 9 (e_1.Kind == 2)
 (.ite 12 (p_0.Task != 0)
 (.ret (zP, 16))
 (.ret ((GPending.mk p_0.Next p_0.Status 1 e_1.ID e_1.N p_0.Seq p_0.Name p_0.Input p_0.Attrs p_0.Cancel p_0.Acts p_0.Timers p_0.Kids p_0.Sends p_0.Updates p_0.Requests), 0)))
 (.ite 24 (e_1.Kind == 3)
 (.jump (.s0 p_0 e_1 zP 1) [(2000, 1), (3000, 1), (4000, 1)])
 (.jump (.s0 p_0 e_1 zP 2) [(2000, 1), (3000, 1), (4000, 1)]))
noncomputable def c173 : J173 → Cert prog J173 (GPending × Int)
| .s0 p_t2 e_t3 t4 want_t6 =>
 .ite 29 (p_t2.Task != want_t6)
 (.ret (zP, 16))
 (.ite 35 (e_t3.Ref != p_t2.TaskID)
 (.ret (zP, 16))
 (.ite 39 (e_t3.Kind == 3)
 (.ret ((GPending.mk p_t2.Next p_t2.Status 2 e_t3.ID p_t2.Attempt p_t2.Seq p_t2.Name p_t2.Input p_t2.Attrs p_t2.Cancel p_t2.Acts p_t2.Timers p_t2.Kids p_t2.Sends p_t2.Updates p_t2.Requests), 0))
 (.ite 49 (e_t3.Kind == 4)
 (.ret ((GPending.mk p_t2.Next p_t2.Status 0 0 0 p_t2.Seq p_t2.Name p_t2.Input p_t2.Attrs p_t2.Cancel p_t2.Acts p_t2.Timers p_t2.Kids p_t2.Sends p_t2.Updates p_t2.Requests), 0))
 (.ret ((GPending.mk p_t2.Next p_t2.Status 0 0 p_t2.Attempt p_t2.Seq p_t2.Name p_t2.Input p_t2.Attrs p_t2.Cancel p_t2.Acts p_t2.Timers p_t2.Kids p_t2.Sends p_t2.Updates p_t2.Requests), 0)))))
theorem h173 (p_0 : GPending) (e_1 : GEvent) : tp prog x173 b173 (a173 p_0 e_1) (ES.init [.val (.agg ((GPending.cs p_0).map R.c)), .val (.agg ((GEvent.cs e_1).map R.c))]) :=
  of_triv (rs := x173.rs) (snap := x173.snap) (c := a173 p_0 e_1) (by kernel_rfl)
theorem g173 : ∀ j, ck prog x173 b173 c173 j
| .s0 p_t2 e_t3 t4 want_t6 => of_triv (rs := x173.rs) (snap := x173.snap) (c := c173 (.s0 p_t2 e_t3 t4 want_t6)) (by kernel_rfl)
noncomputable def m173 : Mir prog 173 (GPending × GEvent) (GPending × Int) where
  fs := [.agg (List.replicate 24 none), .agg (List.replicate 24 none)]
  ga := fun x => [.val (.agg ((GPending.cs x.1).map R.c)), .val (.agg ((GEvent.cs x.2).map R.c))]
  caps := fun x => []
  res := x173.res
  outs := x173.outs
  R := fun x y => Rn c173 (a173 x.1 x.2) y
  ok := fun x y h => sysA (cx := x173) follow func173 (h173 x.1 x.2) (g173) y h
  flat := false
  hflat := nofun
noncomputable def b82 : Code := f82.body.getD .skip
noncomputable def x82 : Cx Empty GAct where
  nt := 20
  rvs := [.cell 2 47]
  mh := []
  res := fun y => [.agg ((GAct.cs y).map R.c)]
  outs := fun y => []
  path := nofun
  sig := nofun
  snap := nofun
noncomputable def a82 (a_0 : GAct) : Cert prog Empty GAct :=
 .ret (GAct.mk a_0.Seq a_0.Event a_0.Name a_0.Data a_0.Opts 1 1 a_0.Scheduled a_0.Scheduled 0 0 0 a_0.Cancel zV eB)
noncomputable def c82 : Empty → Cert prog Empty GAct := nofun
theorem h82 (a_0 : GAct) : tp prog x82 b82 (a82 a_0) (ES.init [.val (.agg ((GAct.cs a_0).map R.c))]) :=
  of_triv (rs := x82.rs) (snap := x82.snap) (c := a82 a_0) (by kernel_rfl)
theorem g82 : ∀ j, ck prog x82 b82 c82 j := nofun
noncomputable def m82 : Mir prog 82 GAct GAct where
  fs := [.agg (List.replicate 32 none)]
  ga := fun x => [.val (.agg ((GAct.cs x).map R.c))]
  caps := fun x => []
  res := x82.res
  outs := x82.outs
  R := fun x y => Rn c82 (a82 x) y
  ok := fun x y h => sysA (cx := x82) follow func82 (h82 x) (g82) y h
  flat := false
  hflat := nofun
inductive J174 where
| s0 (p_t2 : GPending) (e_t3 : GEvent) (t4 : GPending) (due_t7 : Int)
noncomputable def b174 : Code := f174.body.getD .skip
noncomputable def x174 : Cx J174 (GPending × Int) where
  nt := 113
  rvs := [.cell 4 35, .tmp 5]
  mh := []
  res := fun y => [.agg ((GPending.cs y.1).map R.c), .one (.c (.int .i64 y.2))]
  outs := fun y => []
  path := fun
    | .s0 _ _ _ _ => [1, 1, 0, 1, 1, 1, 0, 1, 0, 1, 1, 1]
  sig := fun
    | .s0 _ _ _ _ => [2, 3, 4, 7]
  snap := fun
    | .s0 p_t2 e_t3 t4 due_t7 => ⟨[(2, .one (.ptr 0 1 0)), (3, .one (.ptr 1 1 0)), (4, .one (.ptr 2 1 0)), (7, .one (.c (.int .i64 due_t7)))], [((0, 1), .box ((GPending.cs p_t2).map A.c)), ((1, 1), .box ((GEvent.cs e_t3).map A.c)), ((2, 1), .box ((((((((((((GPending.cs t4).map A.c).set 10 .nil).set 11 .nil).set 15 .nil).set 16 .nil).set 18 .nil).set 19 .nil).set 20 .nil).set 21 .nil).set 22 .nil).set 23 .nil))]⟩
noncomputable def a174 (p_0 : GPending) (e_1 : GEvent) : Cert prog J174 (GPending × Int) :=
 .ite 16 (e_1.Seq != (IntKind.i64.wrap (p_0.Seq + 1)))
 (.ret (zP, 30))
 (.ite 41 (e_1.Kind == 7)
 (.bld E.GAct [] <|
 .app E.GAct 376 [] p_0.Acts <|
 .call m82 (GAct.mk e_1.Seq e_1.ID e_1.Name e_1.Data e_1.Opts 0 0 e_1.Time 0 0 0 0 false zV eB) fun r1 =>
 .bld E.GAct [r1] <|
 .app E.GAct 376 ([] ++ p_0.Acts) [r1] <|
 .ret ((GPending.mk p_0.Next p_0.Status p_0.Task p_0.TaskID p_0.Attempt e_1.Seq p_0.Name p_0.Input p_0.Attrs p_0.Cancel (([] ++ p_0.Acts) ++ [r1]) p_0.Timers p_0.Kids p_0.Sends p_0.Updates p_0.Requests), 0))
 (.ite 66 (e_1.Kind == 14)
 (.ite 74 (decide (1099511627776 < (IntKind.i64.wrap (e_1.Time + e_1.N))))
 (.jump (.s0 (GPending.mk p_0.Next p_0.Status p_0.Task p_0.TaskID p_0.Attempt e_1.Seq p_0.Name p_0.Input p_0.Attrs p_0.Cancel p_0.Acts p_0.Timers p_0.Kids p_0.Sends p_0.Updates p_0.Requests) e_1 zP 1099511627776) [(2000, 1), (3000, 1), (4000, 1)])
 (.jump (.s0 (GPending.mk p_0.Next p_0.Status p_0.Task p_0.TaskID p_0.Attempt e_1.Seq p_0.Name p_0.Input p_0.Attrs p_0.Cancel p_0.Acts p_0.Timers p_0.Kids p_0.Sends p_0.Updates p_0.Requests) e_1 zP (IntKind.i64.wrap (e_1.Time + e_1.N))) [(2000, 1), (3000, 1), (4000, 1)]))
 (.ite 90 (e_1.Kind == 19)
 (.bld E.GKid [] <|
 .app E.GKid 72 [] p_0.Kids <|
 .bld E.GKid [(GKid.mk e_1.Seq e_1.ID e_1.Key e_1.Name e_1.N eB)] <|
 .app E.GKid 72 ([] ++ p_0.Kids) [(GKid.mk e_1.Seq e_1.ID e_1.Key e_1.Name e_1.N eB)] <|
 .ret ((GPending.mk p_0.Next p_0.Status p_0.Task p_0.TaskID p_0.Attempt e_1.Seq p_0.Name p_0.Input p_0.Attrs p_0.Cancel p_0.Acts p_0.Timers (([] ++ p_0.Kids) ++ [(GKid.mk e_1.Seq e_1.ID e_1.Key e_1.Name e_1.N eB)]) p_0.Sends p_0.Updates p_0.Requests), 0))
 (.bld E.GSend [] <|
 .app E.GSend 48 [] p_0.Sends <|
 .bld E.GSend [(GSend.mk e_1.Seq e_1.ID e_1.Key e_1.Name)] <|
 .app E.GSend 48 ([] ++ p_0.Sends) [(GSend.mk e_1.Seq e_1.ID e_1.Key e_1.Name)] <|
 .ret ((GPending.mk p_0.Next p_0.Status p_0.Task p_0.TaskID p_0.Attempt e_1.Seq p_0.Name p_0.Input p_0.Attrs p_0.Cancel p_0.Acts p_0.Timers p_0.Kids (([] ++ p_0.Sends) ++ [(GSend.mk e_1.Seq e_1.ID e_1.Key e_1.Name)]) p_0.Updates p_0.Requests), 0)))))
noncomputable def c174 : J174 → Cert prog J174 (GPending × Int)
| .s0 p_t2 e_t3 t4 due_t7 =>
 .bld E.GTimer [] <|
 .app E.GTimer 24 [] p_t2.Timers <|
 .bld E.GTimer [(GTimer.mk e_t3.Seq e_t3.ID due_t7)] <|
 .app E.GTimer 24 ([] ++ p_t2.Timers) [(GTimer.mk e_t3.Seq e_t3.ID due_t7)] <|
 .ret ((GPending.mk p_t2.Next p_t2.Status p_t2.Task p_t2.TaskID p_t2.Attempt p_t2.Seq p_t2.Name p_t2.Input p_t2.Attrs p_t2.Cancel p_t2.Acts (([] ++ p_t2.Timers) ++ [(GTimer.mk e_t3.Seq e_t3.ID due_t7)]) p_t2.Kids p_t2.Sends p_t2.Updates p_t2.Requests), 0)
theorem h174 (p_0 : GPending) (e_1 : GEvent) : tp prog x174 b174 (a174 p_0 e_1) (ES.init [.val (.agg ((GPending.cs p_0).map R.c)), .val (.agg ((GEvent.cs e_1).map R.c))]) :=
  of_triv (rs := x174.rs) (snap := x174.snap) (c := a174 p_0 e_1) (by kernel_rfl)
theorem g174 : ∀ j, ck prog x174 b174 c174 j
| .s0 p_t2 e_t3 t4 due_t7 => of_triv (rs := x174.rs) (snap := x174.snap) (c := c174 (.s0 p_t2 e_t3 t4 due_t7)) (by kernel_rfl)
noncomputable def m174 : Mir prog 174 (GPending × GEvent) (GPending × Int) where
  fs := [.agg (List.replicate 24 none), .agg (List.replicate 24 none)]
  ga := fun x => [.val (.agg ((GPending.cs x.1).map R.c)), .val (.agg ((GEvent.cs x.2).map R.c))]
  caps := fun x => []
  res := x174.res
  outs := x174.outs
  R := fun x y => Rn c174 (a174 x.1 x.2) y
  ok := fun x y h => sysA (cx := x174) follow func174 (h174 x.1 x.2) (g174) y h
  flat := false
  hflat := nofun
inductive J29 where
| s0 (seq_t1 : Int) (p_t2 : GPending) (t4 : GAct) (i_t6 : Int)
noncomputable def b29 : Code := f29.body.getD .skip
noncomputable def x29 : Cx J29 (GAct × Bool) where
  nt := 28
  rvs := [.cell 4 47, .tmp 5]
  mh := []
  res := fun y => [.agg ((GAct.cs y.1).map R.c), .one (.c (.bool y.2))]
  outs := fun y => []
  path := fun
    | .s0 _ _ _ _ => [0, 1, 0, 1]
  sig := fun
    | .s0 _ _ _ _ => [1, 2, 4, 6]
  snap := fun
    | .s0 seq_t1 p_t2 t4 i_t6 => ⟨[(1, .one (.c (.int .i64 seq_t1))), (2, .one (.ptr 0 1 0)), (4, .one (.ptr 1 1 0)), (6, .one (.c (.int .i64 i_t6)))], [((0, 1), .box ((GPending.cs p_t2).map A.c)), ((1, 1), .box (((((((GAct.cs t4).map A.c).set 6 .nil).set 7 .nil).set 17 .nil).set 29 .nil).set 30 .nil))]⟩
noncomputable def a29 (p_0 : GPending) (seq_1 : Int) : Cert prog J29 (GAct × Bool) :=
 .jump (.s0 seq_1 p_0 (GAct.mk 0 0 eB zV zO 0 0 0 0 0 0 0 false zV eB) 0) [(2000, 1), (4000, 1)]
noncomputable def c29 : J29 → Cert prog J29 (GAct × Bool)
| .s0 seq_t1 p_t2 t4 i_t6 =>
 .len E.GAct p_t2.Acts <|
 .ite 11 (decide (i_t6 < (p_t2.Acts.length : Int)))
 (.elem E.GAct p_t2.Acts i_t6 fun a1 =>
 .ite 21 (a1.Seq == seq_t1)
 (.elem E.GAct p_t2.Acts i_t6 fun a2 =>
 .ret (a2, true))
 (.jump (.s0 seq_t1 p_t2 (GAct.mk t4.Seq t4.Event t4.Name (nV t4.Data) (GPolicy.mk t4.Opts.Queue t4.Opts.ToStart t4.Opts.ToClose t4.Opts.Total t4.Opts.Beat t4.Opts.First t4.Opts.Coef t4.Opts.Most t4.Opts.Attempts []) t4.State t4.Attempt t4.Scheduled t4.Due t4.Started t4.LastBeat t4.Token t4.Cancel (nV t4.Details) t4.Failure) (IntKind.i64.wrap (i_t6 + 1))) [(0, 1), (1, 1)]))
 (.ret ((GAct.mk 0 0 eB zV zO 0 0 0 0 0 0 0 false zV eB), false))
theorem h29 (p_0 : GPending) (seq_1 : Int) : tp prog x29 b29 (a29 p_0 seq_1) (ES.init [.val (.agg ((GPending.cs p_0).map R.c)), .val (.one (.c (.int .i64 seq_1)))]) :=
  of_triv (rs := x29.rs) (snap := x29.snap) (c := a29 p_0 seq_1) (by kernel_rfl)
theorem g29 : ∀ j, ck prog x29 b29 c29 j
| .s0 seq_t1 p_t2 t4 i_t6 => of_triv (rs := x29.rs) (snap := x29.snap) (c := c29 (.s0 seq_t1 p_t2 t4 i_t6)) (by kernel_rfl)
noncomputable def m29 : Mir prog 29 (GPending × Int) (GAct × Bool) where
  fs := [.agg (List.replicate 24 none), .one none]
  ga := fun x => [.val (.agg ((GPending.cs x.1).map R.c)), .val (.one (.c (.int .i64 x.2)))]
  caps := fun x => []
  res := x29.res
  outs := x29.outs
  R := fun x y => Rn c29 (a29 x.1 x.2) y
  ok := fun x y h => sysA (cx := x29) follow func29 (h29 x.1 x.2) (g29) y h
  flat := false
  hflat := nofun
inductive J36 where
| s0 (p_t2 : GPending) (a_t3 : GAct) (t4 : GPending) (out_t8 : List GAct) (done_t9 : Bool) (i_t10 : Int)
| s1 (p_t2 : GPending) (a_t3 : GAct) (t4 : GPending) (out_t8 : List GAct) (done_t9 : Bool) (i_t10 : Int) (t40 : Bool)
noncomputable def b36 : Code := f36.body.getD .skip
noncomputable def x36 : Cx J36 (GPending × Bool) where
  nt := 56
  rvs := [.cell 4 35, .tmp 5]
  mh := []
  res := fun y => [.agg (((GPending.cs y.1).map R.c).set 18 (.own 47 32 (E.GAct.L y.1.Acts))), .one (.c (.bool y.2))]
  outs := fun y => []
  path := fun
    | .s0 _ _ _ _ _ _ => [0, 1, 0, 1, 1, 1, 1, 1]
    | .s1 _ _ _ _ _ _ _ => [1, 0, 0, 1, 0, 0, 1, 0, 1, 1, 1, 1, 1]
  sig := fun
    | .s0 _ _ _ _ _ _ => [2, 3, 4, 8, 9, 10]
    | .s1 _ _ _ _ _ _ _ => [2, 3, 4, 8, 9, 10, 40]
  snap := fun
    | .s0 p_t2 a_t3 t4 out_t8 done_t9 i_t10 => ⟨[(2, .one (.ptr 0 1 0)), (3, .one (.ptr 1 1 0)), (4, .one (.ptr 2 1 0)), (8, .one (.own 3 1)), (9, .one (.c (.bool done_t9))), (10, .one (.c (.int .i64 i_t10)))], [((0, 1), .box ((GPending.cs p_t2).map A.c)), ((1, 1), .box ((GAct.cs a_t3).map A.c)), ((2, 1), .box ((((((((((((GPending.cs t4).map A.c).set 10 .nil).set 11 .nil).set 15 .nil).set 16 .nil).set 18 .nil).set 19 .nil).set 20 .nil).set 21 .nil).set 22 .nil).set 23 .nil)), ((3, 1), .arr 47 32 (E.GAct.L out_t8))]⟩
    | .s1 p_t2 a_t3 t4 out_t8 done_t9 i_t10 t40 => ⟨[(2, .one (.ptr 0 1 0)), (3, .one (.ptr 1 1 0)), (4, .one (.ptr 2 1 0)), (8, .one (.own 3 1)), (9, .one (.c (.bool done_t9))), (10, .one (.c (.int .i64 i_t10))), (40, .one (.c (.bool t40)))], [((0, 1), .box ((GPending.cs p_t2).map A.c)), ((1, 1), .box ((GAct.cs a_t3).map A.c)), ((2, 1), .box ((((((((((((GPending.cs t4).map A.c).set 10 .nil).set 11 .nil).set 15 .nil).set 16 .nil).set 18 .nil).set 19 .nil).set 20 .nil).set 21 .nil).set 22 .nil).set 23 .nil)), ((3, 1), .arr 47 32 (E.GAct.L out_t8))]⟩
noncomputable def a36 (p_0 : GPending) (a_1 : GAct) : Cert prog J36 (GPending × Bool) :=
 .call m29 (p_0, a_1.Seq) fun r1 =>
 .ite 19 (!r1.2)
 (.ret (zP, false))
 (.adoptT 8 47 32 <|
 .jump (.s0 p_0 a_1 zP [] false 0) [(2000, 1), (3000, 1), (4000, 1), (8999, 1)])
noncomputable def c36 : J36 → Cert prog J36 (GPending × Bool)
| .s0 p_t2 a_t3 t4 out_t8 done_t9 i_t10 =>
 .len E.GAct p_t2.Acts <|
 .ite 25 (decide (i_t10 < (p_t2.Acts.length : Int)))
 (.elem E.GAct p_t2.Acts i_t10 fun a2 =>
 .ite 37 (a2.Seq == a_t3.Seq)
 (.jump (.s1 p_t2 a_t3 (nP t4) out_t8 done_t9 i_t10 (!done_t9)) [(0, 1), (1, 1), (2, 1), (3, 1)])
 (.jump (.s1 p_t2 a_t3 (nP t4) out_t8 done_t9 i_t10 false) [(0, 1), (1, 1), (2, 1), (3, 1)]))
 (.ret ((GPending.mk p_t2.Next p_t2.Status p_t2.Task p_t2.TaskID p_t2.Attempt p_t2.Seq p_t2.Name p_t2.Input p_t2.Attrs p_t2.Cancel out_t8 p_t2.Timers p_t2.Kids p_t2.Sends p_t2.Updates p_t2.Requests), true))
| .s1 p_t2 a_t3 t4 out_t8 done_t9 i_t10 t40 =>
 .ite 40 t40
 (.bld E.GAct [a_t3] <|
 .app E.GAct 376 out_t8 [a_t3] <|
 .jump (.s0 p_t2 a_t3 (nP t4) (out_t8 ++ [a_t3]) true (IntKind.i64.wrap (i_t10 + 1))) [(0, 1), (1, 1), (2, 1), (44000, 2)])
 (.elem E.GAct p_t2.Acts i_t10 fun a3 =>
 .bld E.GAct [a3] <|
 .app E.GAct 376 out_t8 [a3] <|
 .jump (.s0 p_t2 a_t3 (nP t4) (out_t8 ++ [a3]) done_t9 (IntKind.i64.wrap (i_t10 + 1))) [(0, 1), (1, 1), (2, 1), (52000, 2)])
theorem h36 (p_0 : GPending) (a_1 : GAct) : tp prog x36 b36 (a36 p_0 a_1) (ES.init [.val (.agg ((GPending.cs p_0).map R.c)), .val (.agg ((GAct.cs a_1).map R.c))]) :=
  of_triv (rs := x36.rs) (snap := x36.snap) (c := a36 p_0 a_1) (by kernel_rfl)
theorem g36 : ∀ j, ck prog x36 b36 c36 j
| .s0 p_t2 a_t3 t4 out_t8 done_t9 i_t10 => of_triv (rs := x36.rs) (snap := x36.snap) (c := c36 (.s0 p_t2 a_t3 t4 out_t8 done_t9 i_t10)) (by kernel_rfl)
| .s1 p_t2 a_t3 t4 out_t8 done_t9 i_t10 t40 => of_triv (rs := x36.rs) (snap := x36.snap) (c := c36 (.s1 p_t2 a_t3 t4 out_t8 done_t9 i_t10 t40)) (by kernel_rfl)
noncomputable def m36 : Mir prog 36 (GPending × GAct) (GPending × Bool) where
  fs := [.agg (List.replicate 24 none), .agg (List.replicate 32 none)]
  ga := fun x => [.val (.agg ((GPending.cs x.1).map R.c)), .val (.agg ((GAct.cs x.2).map R.c))]
  caps := fun x => []
  res := x36.res
  outs := x36.outs
  R := fun x y => Rn c36 (a36 x.1 x.2) y
  ok := fun x y h => sysA (cx := x36) follow func36 (h36 x.1 x.2) (g36) y h
  flat := false
  hflat := nofun
inductive J175 where
| s0 (p_t2 : GPending) (e_t3 : GEvent) (t4 : GPending) (out_t10 : List GAct) (i_t11 : Int)
noncomputable def b175 : Code := f175.body.getD .skip
noncomputable def x175 : Cx J175 (GPending × Int) where
  nt := 71
  rvs := [.cell 4 35, .tmp 5]
  mh := []
  res := fun y => [.agg ((GPending.cs y.1).map R.c), .one (.c (.int .i64 y.2))]
  outs := fun y => []
  path := fun
    | .s0 _ _ _ _ _ => [0, 1, 0, 1, 1, 1, 1, 1, 1]
  sig := fun
    | .s0 _ _ _ _ _ => [2, 3, 4, 10, 11]
  snap := fun
    | .s0 p_t2 e_t3 t4 out_t10 i_t11 => ⟨[(2, .one (.ptr 0 1 0)), (3, .one (.ptr 1 1 0)), (4, .one (.ptr 2 1 0)), (10, .one (.own 3 1)), (11, .one (.c (.int .i64 i_t11)))], [((0, 1), .box ((GPending.cs p_t2).map A.c)), ((1, 1), .box ((GEvent.cs e_t3).map A.c)), ((2, 1), .box ((((((((((((GPending.cs t4).map A.c).set 10 .nil).set 11 .nil).set 15 .nil).set 16 .nil).set 18 .nil).set 19 .nil).set 20 .nil).set 21 .nil).set 22 .nil).set 23 .nil)), ((3, 1), .arr 47 32 (E.GAct.L out_t10))]⟩
noncomputable def a175 (p_0 : GPending) (e_1 : GEvent) : Cert prog J175 (GPending × Int) :=
 .call m29 (p_0, e_1.Seq) fun r1 =>
 .ite 21 (!r1.2)
 (.ret (zP, 15))
 (.ite 27 (r1.1.Event != e_1.Ref)
 (.ret (zP, 15))
 (.ite 31 (e_1.Kind == 8)
 (.ret (p_0, 0))
 (.ite 35 (e_1.Kind == 12)
 (.call m36 (p_0, (GAct.mk r1.1.Seq r1.1.Event r1.1.Name r1.1.Data r1.1.Opts r1.1.State r1.1.Attempt r1.1.Scheduled r1.1.Due r1.1.Started r1.1.LastBeat r1.1.Token true r1.1.Details r1.1.Failure)) fun r2 =>
 .ret (r2.1, 0))
 (.adoptT 10 47 32 <|
 .jump (.s0 p_0 e_1 zP [] 0) [(2000, 1), (3000, 1), (4000, 1), (10999, 1)]))))
noncomputable def c175 : J175 → Cert prog J175 (GPending × Int)
| .s0 p_t2 e_t3 t4 out_t10 i_t11 =>
 .len E.GAct p_t2.Acts <|
 .ite 48 (decide (i_t11 < (p_t2.Acts.length : Int)))
 (.elem E.GAct p_t2.Acts i_t11 fun a3 =>
 .ite 59 (a3.Seq != e_t3.Seq)
 (.elem E.GAct p_t2.Acts i_t11 fun a4 =>
 .bld E.GAct [a4] <|
 .app E.GAct 376 out_t10 [a4] <|
 .jump (.s0 p_t2 e_t3 (nP t4) (out_t10 ++ [a4]) (IntKind.i64.wrap (i_t11 + 1))) [(0, 1), (1, 1), (2, 1), (67000, 2)])
 (.jump (.s0 p_t2 e_t3 (nP t4) out_t10 (IntKind.i64.wrap (i_t11 + 1))) [(0, 1), (1, 1), (2, 1), (3, 1)]))
 (.ret ((GPending.mk p_t2.Next p_t2.Status p_t2.Task p_t2.TaskID p_t2.Attempt p_t2.Seq p_t2.Name p_t2.Input p_t2.Attrs p_t2.Cancel out_t10 p_t2.Timers p_t2.Kids p_t2.Sends p_t2.Updates p_t2.Requests), 0))
theorem h175 (p_0 : GPending) (e_1 : GEvent) : tp prog x175 b175 (a175 p_0 e_1) (ES.init [.val (.agg ((GPending.cs p_0).map R.c)), .val (.agg ((GEvent.cs e_1).map R.c))]) :=
  of_triv (rs := x175.rs) (snap := x175.snap) (c := a175 p_0 e_1) (by kernel_rfl)
theorem g175 : ∀ j, ck prog x175 b175 c175 j
| .s0 p_t2 e_t3 t4 out_t10 i_t11 => of_triv (rs := x175.rs) (snap := x175.snap) (c := c175 (.s0 p_t2 e_t3 t4 out_t10 i_t11)) (by kernel_rfl)
noncomputable def m175 : Mir prog 175 (GPending × GEvent) (GPending × Int) where
  fs := [.agg (List.replicate 24 none), .agg (List.replicate 24 none)]
  ga := fun x => [.val (.agg ((GPending.cs x.1).map R.c)), .val (.agg ((GEvent.cs x.2).map R.c))]
  caps := fun x => []
  res := x175.res
  outs := x175.outs
  R := fun x y => Rn c175 (a175 x.1 x.2) y
  ok := fun x y h => sysA (cx := x175) follow func175 (h175 x.1 x.2) (g175) y h
  flat := false
  hflat := nofun
inductive J30 where
| s0 (seq_t1 : Int) (p_t2 : GPending) (t4 : GTimer) (i_t6 : Int)
noncomputable def b30 : Code := f30.body.getD .skip
noncomputable def x30 : Cx J30 (GTimer × Bool) where
  nt := 28
  rvs := [.cell 4 49, .tmp 5]
  mh := []
  res := fun y => [.agg ((GTimer.cs y.1).map R.c), .one (.c (.bool y.2))]
  outs := fun y => []
  path := fun
    | .s0 _ _ _ _ => [0, 1, 0, 1]
  sig := fun
    | .s0 _ _ _ _ => [1, 2, 4, 6]
  snap := fun
    | .s0 seq_t1 p_t2 t4 i_t6 => ⟨[(1, .one (.c (.int .i64 seq_t1))), (2, .one (.ptr 0 1 0)), (4, .one (.ptr 1 1 0)), (6, .one (.c (.int .i64 i_t6)))], [((0, 1), .box ((GPending.cs p_t2).map A.c)), ((1, 1), .box ((GTimer.cs t4).map A.c))]⟩
noncomputable def a30 (p_0 : GPending) (seq_1 : Int) : Cert prog J30 (GTimer × Bool) :=
 .jump (.s0 seq_1 p_0 (GTimer.mk 0 0 0) 0) [(2000, 1), (4000, 1)]
noncomputable def c30 : J30 → Cert prog J30 (GTimer × Bool)
| .s0 seq_t1 p_t2 t4 i_t6 =>
 .len E.GTimer p_t2.Timers <|
 .ite 11 (decide (i_t6 < (p_t2.Timers.length : Int)))
 (.elem E.GTimer p_t2.Timers i_t6 fun a1 =>
 .ite 21 (a1.Seq == seq_t1)
 (.elem E.GTimer p_t2.Timers i_t6 fun a2 =>
 .ret (a2, true))
 (.jump (.s0 seq_t1 p_t2 t4 (IntKind.i64.wrap (i_t6 + 1))) [(0, 1), (1, 1)]))
 (.ret ((GTimer.mk 0 0 0), false))
theorem h30 (p_0 : GPending) (seq_1 : Int) : tp prog x30 b30 (a30 p_0 seq_1) (ES.init [.val (.agg ((GPending.cs p_0).map R.c)), .val (.one (.c (.int .i64 seq_1)))]) :=
  of_triv (rs := x30.rs) (snap := x30.snap) (c := a30 p_0 seq_1) (by kernel_rfl)
theorem g30 : ∀ j, ck prog x30 b30 c30 j
| .s0 seq_t1 p_t2 t4 i_t6 => of_triv (rs := x30.rs) (snap := x30.snap) (c := c30 (.s0 seq_t1 p_t2 t4 i_t6)) (by kernel_rfl)
noncomputable def m30 : Mir prog 30 (GPending × Int) (GTimer × Bool) where
  fs := [.agg (List.replicate 24 none), .one none]
  ga := fun x => [.val (.agg ((GPending.cs x.1).map R.c)), .val (.one (.c (.int .i64 x.2)))]
  caps := fun x => []
  res := x30.res
  outs := x30.outs
  R := fun x y => Rn c30 (a30 x.1 x.2) y
  ok := fun x y h => sysA (cx := x30) follow func30 (h30 x.1 x.2) (g30) y h
  flat := false
  hflat := nofun
inductive J176 where
| s0 (p_t2 : GPending) (e_t3 : GEvent) (t4 : GPending) (out_t8 : List GTimer) (i_t9 : Int)
noncomputable def b176 : Code := f176.body.getD .skip
noncomputable def x176 : Cx J176 (GPending × Int) where
  nt := 54
  rvs := [.cell 4 35, .tmp 5]
  mh := []
  res := fun y => [.agg (((GPending.cs y.1).map R.c).set 19 (.own 49 3 (E.GTimer.L y.1.Timers))), .one (.c (.int .i64 y.2))]
  outs := fun y => []
  path := fun
    | .s0 _ _ _ _ _ => [0, 1, 0, 1, 1, 1, 1]
  sig := fun
    | .s0 _ _ _ _ _ => [2, 3, 4, 8, 9]
  snap := fun
    | .s0 p_t2 e_t3 t4 out_t8 i_t9 => ⟨[(2, .one (.ptr 0 1 0)), (3, .one (.ptr 1 1 0)), (4, .one (.ptr 2 1 0)), (8, .one (.own 3 1)), (9, .one (.c (.int .i64 i_t9)))], [((0, 1), .box ((GPending.cs p_t2).map A.c)), ((1, 1), .box ((GEvent.cs e_t3).map A.c)), ((2, 1), .box ((((((((((((GPending.cs t4).map A.c).set 10 .nil).set 11 .nil).set 15 .nil).set 16 .nil).set 18 .nil).set 19 .nil).set 20 .nil).set 21 .nil).set 22 .nil).set 23 .nil)), ((3, 1), .arr 49 3 (E.GTimer.L out_t8))]⟩
noncomputable def a176 (p_0 : GPending) (e_1 : GEvent) : Cert prog J176 (GPending × Int) :=
 .call m30 (p_0, e_1.Seq) fun r1 =>
 .ite 19 (!r1.2)
 (.ret (zP, 15))
 (.ite 25 (r1.1.Event != e_1.Ref)
 (.ret (zP, 15))
 (.adoptT 8 49 3 <|
 .jump (.s0 p_0 e_1 zP [] 0) [(2000, 1), (3000, 1), (4000, 1), (8999, 1)]))
noncomputable def c176 : J176 → Cert prog J176 (GPending × Int)
| .s0 p_t2 e_t3 t4 out_t8 i_t9 =>
 .len E.GTimer p_t2.Timers <|
 .ite 31 (decide (i_t9 < (p_t2.Timers.length : Int)))
 (.elem E.GTimer p_t2.Timers i_t9 fun a2 =>
 .ite 42 (a2.Seq != e_t3.Seq)
 (.elem E.GTimer p_t2.Timers i_t9 fun a3 =>
 .bld E.GTimer [a3] <|
 .app E.GTimer 24 out_t8 [a3] <|
 .jump (.s0 p_t2 e_t3 (nP t4) (out_t8 ++ [a3]) (IntKind.i64.wrap (i_t9 + 1))) [(0, 1), (1, 1), (2, 1), (50000, 2)])
 (.jump (.s0 p_t2 e_t3 (nP t4) out_t8 (IntKind.i64.wrap (i_t9 + 1))) [(0, 1), (1, 1), (2, 1), (3, 1)]))
 (.ret ((GPending.mk p_t2.Next p_t2.Status p_t2.Task p_t2.TaskID p_t2.Attempt p_t2.Seq p_t2.Name p_t2.Input p_t2.Attrs p_t2.Cancel p_t2.Acts out_t8 p_t2.Kids p_t2.Sends p_t2.Updates p_t2.Requests), 0))
theorem h176 (p_0 : GPending) (e_1 : GEvent) : tp prog x176 b176 (a176 p_0 e_1) (ES.init [.val (.agg ((GPending.cs p_0).map R.c)), .val (.agg ((GEvent.cs e_1).map R.c))]) :=
  of_triv (rs := x176.rs) (snap := x176.snap) (c := a176 p_0 e_1) (by kernel_rfl)
theorem g176 : ∀ j, ck prog x176 b176 c176 j
| .s0 p_t2 e_t3 t4 out_t8 i_t9 => of_triv (rs := x176.rs) (snap := x176.snap) (c := c176 (.s0 p_t2 e_t3 t4 out_t8 i_t9)) (by kernel_rfl)
noncomputable def m176 : Mir prog 176 (GPending × GEvent) (GPending × Int) where
  fs := [.agg (List.replicate 24 none), .agg (List.replicate 24 none)]
  ga := fun x => [.val (.agg ((GPending.cs x.1).map R.c)), .val (.agg ((GEvent.cs x.2).map R.c))]
  caps := fun x => []
  res := x176.res
  outs := x176.outs
  R := fun x y => Rn c176 (a176 x.1 x.2) y
  ok := fun x y h => sysA (cx := x176) follow func176 (h176 x.1 x.2) (g176) y h
  flat := false
  hflat := nofun
inductive J31 where
| s0 (seq_t1 : Int) (p_t2 : GPending) (t4 : GKid) (i_t6 : Int)
noncomputable def b31 : Code := f31.body.getD .skip
noncomputable def x31 : Cx J31 (GKid × Bool) where
  nt := 28
  rvs := [.cell 4 51, .tmp 5]
  mh := []
  res := fun y => [.agg ((GKid.cs y.1).map R.c), .one (.c (.bool y.2))]
  outs := fun y => []
  path := fun
    | .s0 _ _ _ _ => [0, 1, 0, 1]
  sig := fun
    | .s0 _ _ _ _ => [1, 2, 4, 6]
  snap := fun
    | .s0 seq_t1 p_t2 t4 i_t6 => ⟨[(1, .one (.c (.int .i64 seq_t1))), (2, .one (.ptr 0 1 0)), (4, .one (.ptr 1 1 0)), (6, .one (.c (.int .i64 i_t6)))], [((0, 1), .box ((GPending.cs p_t2).map A.c)), ((1, 1), .box ((GKid.cs t4).map A.c))]⟩
noncomputable def a31 (p_0 : GPending) (seq_1 : Int) : Cert prog J31 (GKid × Bool) :=
 .jump (.s0 seq_1 p_0 (GKid.mk 0 0 eB eB 0 eB) 0) [(2000, 1), (4000, 1)]
noncomputable def c31 : J31 → Cert prog J31 (GKid × Bool)
| .s0 seq_t1 p_t2 t4 i_t6 =>
 .len E.GKid p_t2.Kids <|
 .ite 11 (decide (i_t6 < (p_t2.Kids.length : Int)))
 (.elem E.GKid p_t2.Kids i_t6 fun a1 =>
 .ite 21 (a1.Seq == seq_t1)
 (.elem E.GKid p_t2.Kids i_t6 fun a2 =>
 .ret (a2, true))
 (.jump (.s0 seq_t1 p_t2 t4 (IntKind.i64.wrap (i_t6 + 1))) [(0, 1), (1, 1)]))
 (.ret ((GKid.mk 0 0 eB eB 0 eB), false))
theorem h31 (p_0 : GPending) (seq_1 : Int) : tp prog x31 b31 (a31 p_0 seq_1) (ES.init [.val (.agg ((GPending.cs p_0).map R.c)), .val (.one (.c (.int .i64 seq_1)))]) :=
  of_triv (rs := x31.rs) (snap := x31.snap) (c := a31 p_0 seq_1) (by kernel_rfl)
theorem g31 : ∀ j, ck prog x31 b31 c31 j
| .s0 seq_t1 p_t2 t4 i_t6 => of_triv (rs := x31.rs) (snap := x31.snap) (c := c31 (.s0 seq_t1 p_t2 t4 i_t6)) (by kernel_rfl)
noncomputable def m31 : Mir prog 31 (GPending × Int) (GKid × Bool) where
  fs := [.agg (List.replicate 24 none), .one none]
  ga := fun x => [.val (.agg ((GPending.cs x.1).map R.c)), .val (.one (.c (.int .i64 x.2)))]
  caps := fun x => []
  res := x31.res
  outs := x31.outs
  R := fun x y => Rn c31 (a31 x.1 x.2) y
  ok := fun x y h => sysA (cx := x31) follow func31 (h31 x.1 x.2) (g31) y h
  flat := false
  hflat := nofun
inductive J177 where
| s0 (p_t2 : GPending) (e_t3 : GEvent) (t4 : GPending)
| s1 (p_t2 : GPending) (e_t3 : GEvent) (t4 : GPending) (out_t8 : List GKid) (i_t9 : Int)
| s2 (p_t2 : GPending) (e_t3 : GEvent) (t4 : GPending) (out_t8 : List GKid) (i_t9 : Int) (x_t10 : GKid)
| s3 (p_t2 : GPending) (e_t3 : GEvent) (t4 : GPending) (out_t8 : List GKid) (i_t9 : Int) (x_t10 : GKid) (t71 : Bool)
noncomputable def b177 : Code := f177.body.getD .skip
noncomputable def x177 : Cx J177 (GPending × Int) where
  nt := 79
  rvs := [.cell 4 35, .tmp 5]
  mh := []
  res := fun y => [.agg (((GPending.cs y.1).map R.c).set 20 (.own 51 6 (E.GKid.L y.1.Kids))), .one (.c (.int .i64 y.2))]
  outs := fun y => []
  path := fun
    | .s0 _ _ _ => [1, 1, 1, 1]
    | .s1 _ _ _ _ _ => [0, 1, 0, 1, 1, 1, 1, 1]
    | .s2 _ _ _ _ _ _ => [1, 1, 0, 0, 1, 0, 0, 1, 0, 1, 1, 1, 1, 1]
    | .s3 _ _ _ _ _ _ _ => [1, 1, 1, 0, 0, 1, 0, 0, 1, 0, 1, 1, 1, 1, 1]
  sig := fun
    | .s0 _ _ _ => [2, 3, 4]
    | .s1 _ _ _ _ _ => [2, 3, 4, 8, 9]
    | .s2 _ _ _ _ _ _ => [2, 3, 4, 8, 9, 10]
    | .s3 _ _ _ _ _ _ _ => [2, 3, 4, 8, 9, 10, 71]
  snap := fun
    | .s0 p_t2 e_t3 t4 => ⟨[(2, .one (.ptr 0 1 0)), (3, .one (.ptr 1 1 0)), (4, .one (.ptr 2 1 0))], [((0, 1), .box ((GPending.cs p_t2).map A.c)), ((1, 1), .box ((GEvent.cs e_t3).map A.c)), ((2, 1), .box ((((((((((((GPending.cs t4).map A.c).set 10 .nil).set 11 .nil).set 15 .nil).set 16 .nil).set 18 .nil).set 19 .nil).set 20 .nil).set 21 .nil).set 22 .nil).set 23 .nil))]⟩
    | .s1 p_t2 e_t3 t4 out_t8 i_t9 => ⟨[(2, .one (.ptr 0 1 0)), (3, .one (.ptr 1 1 0)), (4, .one (.ptr 2 1 0)), (8, .one (.own 3 1)), (9, .one (.c (.int .i64 i_t9)))], [((0, 1), .box ((GPending.cs p_t2).map A.c)), ((1, 1), .box ((GEvent.cs e_t3).map A.c)), ((2, 1), .box ((((((((((((GPending.cs t4).map A.c).set 10 .nil).set 11 .nil).set 15 .nil).set 16 .nil).set 18 .nil).set 19 .nil).set 20 .nil).set 21 .nil).set 22 .nil).set 23 .nil)), ((3, 1), .arr 51 6 (E.GKid.L out_t8))]⟩
    | .s2 p_t2 e_t3 t4 out_t8 i_t9 x_t10 => ⟨[(2, .one (.ptr 0 1 0)), (3, .one (.ptr 1 1 0)), (4, .one (.ptr 2 1 0)), (8, .one (.own 3 1)), (9, .one (.c (.int .i64 i_t9))), (10, .one (.ptr 4 1 0))], [((0, 1), .box ((GPending.cs p_t2).map A.c)), ((1, 1), .box ((GEvent.cs e_t3).map A.c)), ((2, 1), .box ((((((((((((GPending.cs t4).map A.c).set 10 .nil).set 11 .nil).set 15 .nil).set 16 .nil).set 18 .nil).set 19 .nil).set 20 .nil).set 21 .nil).set 22 .nil).set 23 .nil)), ((3, 1), .arr 51 6 (E.GKid.L out_t8)), ((4, 1), .box ((GKid.cs x_t10).map A.c))]⟩
    | .s3 p_t2 e_t3 t4 out_t8 i_t9 x_t10 t71 => ⟨[(2, .one (.ptr 0 1 0)), (3, .one (.ptr 1 1 0)), (4, .one (.ptr 2 1 0)), (8, .one (.own 3 1)), (9, .one (.c (.int .i64 i_t9))), (10, .one (.ptr 4 1 0)), (71, .one (.c (.bool t71)))], [((0, 1), .box ((GPending.cs p_t2).map A.c)), ((1, 1), .box ((GEvent.cs e_t3).map A.c)), ((2, 1), .box ((((((((((((GPending.cs t4).map A.c).set 10 .nil).set 11 .nil).set 15 .nil).set 16 .nil).set 18 .nil).set 19 .nil).set 20 .nil).set 21 .nil).set 22 .nil).set 23 .nil)), ((3, 1), .arr 51 6 (E.GKid.L out_t8)), ((4, 1), .box ((GKid.cs x_t10).map A.c))]⟩
noncomputable def a177 (p_0 : GPending) (e_1 : GEvent) : Cert prog J177 (GPending × Int) :=
 .call m31 (p_0, e_1.Seq) fun r1 =>
 .ite 20 (!r1.2)
 (.ret (zP, 15))
 (.ite 26 (r1.1.Event != e_1.Ref)
 (.ret (zP, 15))
 (.ite 31 (e_1.Kind == 20)
 (.ite 35 (!strEq r1.1.Run eB)
 (.ret (zP, 9))
 (.jump (.s0 p_0 e_1 zP) [(2000, 1), (3000, 1), (4000, 1)]))
 (.jump (.s0 p_0 e_1 zP) [(2000, 1), (3000, 1), (4000, 1)])))
noncomputable def c177 : J177 → Cert prog J177 (GPending × Int)
| .s0 p_t2 e_t3 t4 =>
 .adoptT 8 51 6 <|
 .jump (.s1 p_t2 e_t3 (nP t4) [] 0) [(0, 1), (1, 1), (2, 1), (8999, 2)]
| .s1 p_t2 e_t3 t4 out_t8 i_t9 =>
 .len E.GKid p_t2.Kids <|
 .ite 41 (decide (i_t9 < (p_t2.Kids.length : Int)))
 (.elem E.GKid p_t2.Kids i_t9 fun a2 =>
 .ite 54 (a2.Seq == e_t3.Seq)
 (.ite 58 (e_t3.Kind == 20)
 (.jump (.s2 p_t2 e_t3 (nP t4) out_t8 i_t9 (GKid.mk a2.Seq a2.Event a2.Key a2.Name a2.Policy e_t3.Key)) [(0, 1), (1, 1), (2, 1), (3, 1), (10000, 2)])
 (.jump (.s2 p_t2 e_t3 (nP t4) out_t8 i_t9 a2) [(0, 1), (1, 1), (2, 1), (3, 1), (10000, 2)]))
 (.jump (.s2 p_t2 e_t3 (nP t4) out_t8 i_t9 a2) [(0, 1), (1, 1), (2, 1), (3, 1), (10000, 2)]))
 (.ret ((GPending.mk p_t2.Next p_t2.Status p_t2.Task p_t2.TaskID p_t2.Attempt p_t2.Seq p_t2.Name p_t2.Input p_t2.Attrs p_t2.Cancel p_t2.Acts p_t2.Timers out_t8 p_t2.Sends p_t2.Updates p_t2.Requests), 0))
| .s2 p_t2 e_t3 t4 out_t8 i_t9 x_t10 =>
 .ite 67 (x_t10.Seq != e_t3.Seq)
 (.jump (.s3 p_t2 e_t3 (nP t4) out_t8 i_t9 x_t10 true) [(0, 1), (1, 1), (2, 1), (3, 1), (4, 1)])
 (.jump (.s3 p_t2 e_t3 (nP t4) out_t8 i_t9 x_t10 (e_t3.Kind == 20)) [(0, 1), (1, 1), (2, 1), (3, 1), (4, 1)])
| .s3 p_t2 e_t3 t4 out_t8 i_t9 x_t10 t71 =>
 .ite 71 t71
 (.bld E.GKid [x_t10] <|
 .app E.GKid 72 out_t8 [x_t10] <|
 .jump (.s1 p_t2 e_t3 (nP t4) (out_t8 ++ [x_t10]) (IntKind.i64.wrap (i_t9 + 1))) [(0, 1), (1, 1), (2, 1), (75000, 2)])
 (.jump (.s1 p_t2 e_t3 (nP t4) out_t8 (IntKind.i64.wrap (i_t9 + 1))) [(0, 1), (1, 1), (2, 1), (3, 1)])
theorem h177 (p_0 : GPending) (e_1 : GEvent) : tp prog x177 b177 (a177 p_0 e_1) (ES.init [.val (.agg ((GPending.cs p_0).map R.c)), .val (.agg ((GEvent.cs e_1).map R.c))]) :=
  of_triv (rs := x177.rs) (snap := x177.snap) (c := a177 p_0 e_1) (by kernel_rfl)
theorem g177 : ∀ j, ck prog x177 b177 c177 j
| .s0 p_t2 e_t3 t4 => of_triv (rs := x177.rs) (snap := x177.snap) (c := c177 (.s0 p_t2 e_t3 t4)) (by kernel_rfl)
| .s1 p_t2 e_t3 t4 out_t8 i_t9 => of_triv (rs := x177.rs) (snap := x177.snap) (c := c177 (.s1 p_t2 e_t3 t4 out_t8 i_t9)) (by kernel_rfl)
| .s2 p_t2 e_t3 t4 out_t8 i_t9 x_t10 => of_triv (rs := x177.rs) (snap := x177.snap) (c := c177 (.s2 p_t2 e_t3 t4 out_t8 i_t9 x_t10)) (by kernel_rfl)
| .s3 p_t2 e_t3 t4 out_t8 i_t9 x_t10 t71 => of_triv (rs := x177.rs) (snap := x177.snap) (c := c177 (.s3 p_t2 e_t3 t4 out_t8 i_t9 x_t10 t71)) (by kernel_rfl)
noncomputable def m177 : Mir prog 177 (GPending × GEvent) (GPending × Int) where
  fs := [.agg (List.replicate 24 none), .agg (List.replicate 24 none)]
  ga := fun x => [.val (.agg ((GPending.cs x.1).map R.c)), .val (.agg ((GEvent.cs x.2).map R.c))]
  caps := fun x => []
  res := x177.res
  outs := x177.outs
  R := fun x y => Rn c177 (a177 x.1 x.2) y
  ok := fun x y h => sysA (cx := x177) follow func177 (h177 x.1 x.2) (g177) y h
  flat := false
  hflat := nofun
inductive J32 where
| s0 (seq_t1 : Int) (p_t2 : GPending) (t4 : GSend) (i_t6 : Int)
noncomputable def b32 : Code := f32.body.getD .skip
noncomputable def x32 : Cx J32 (GSend × Bool) where
  nt := 28
  rvs := [.cell 4 53, .tmp 5]
  mh := []
  res := fun y => [.agg ((GSend.cs y.1).map R.c), .one (.c (.bool y.2))]
  outs := fun y => []
  path := fun
    | .s0 _ _ _ _ => [0, 1, 0, 1]
  sig := fun
    | .s0 _ _ _ _ => [1, 2, 4, 6]
  snap := fun
    | .s0 seq_t1 p_t2 t4 i_t6 => ⟨[(1, .one (.c (.int .i64 seq_t1))), (2, .one (.ptr 0 1 0)), (4, .one (.ptr 1 1 0)), (6, .one (.c (.int .i64 i_t6)))], [((0, 1), .box ((GPending.cs p_t2).map A.c)), ((1, 1), .box ((GSend.cs t4).map A.c))]⟩
noncomputable def a32 (p_0 : GPending) (seq_1 : Int) : Cert prog J32 (GSend × Bool) :=
 .jump (.s0 seq_1 p_0 (GSend.mk 0 0 eB eB) 0) [(2000, 1), (4000, 1)]
noncomputable def c32 : J32 → Cert prog J32 (GSend × Bool)
| .s0 seq_t1 p_t2 t4 i_t6 =>
 .len E.GSend p_t2.Sends <|
 .ite 11 (decide (i_t6 < (p_t2.Sends.length : Int)))
 (.elem E.GSend p_t2.Sends i_t6 fun a1 =>
 .ite 21 (a1.Seq == seq_t1)
 (.elem E.GSend p_t2.Sends i_t6 fun a2 =>
 .ret (a2, true))
 (.jump (.s0 seq_t1 p_t2 t4 (IntKind.i64.wrap (i_t6 + 1))) [(0, 1), (1, 1)]))
 (.ret ((GSend.mk 0 0 eB eB), false))
theorem h32 (p_0 : GPending) (seq_1 : Int) : tp prog x32 b32 (a32 p_0 seq_1) (ES.init [.val (.agg ((GPending.cs p_0).map R.c)), .val (.one (.c (.int .i64 seq_1)))]) :=
  of_triv (rs := x32.rs) (snap := x32.snap) (c := a32 p_0 seq_1) (by kernel_rfl)
theorem g32 : ∀ j, ck prog x32 b32 c32 j
| .s0 seq_t1 p_t2 t4 i_t6 => of_triv (rs := x32.rs) (snap := x32.snap) (c := c32 (.s0 seq_t1 p_t2 t4 i_t6)) (by kernel_rfl)
noncomputable def m32 : Mir prog 32 (GPending × Int) (GSend × Bool) where
  fs := [.agg (List.replicate 24 none), .one none]
  ga := fun x => [.val (.agg ((GPending.cs x.1).map R.c)), .val (.one (.c (.int .i64 x.2)))]
  caps := fun x => []
  res := x32.res
  outs := x32.outs
  R := fun x y => Rn c32 (a32 x.1 x.2) y
  ok := fun x y h => sysA (cx := x32) follow func32 (h32 x.1 x.2) (g32) y h
  flat := false
  hflat := nofun
inductive J178 where
| s0 (p_t2 : GPending) (e_t3 : GEvent) (t4 : GPending) (out_t8 : List GSend) (i_t9 : Int)
noncomputable def b178 : Code := f178.body.getD .skip
noncomputable def x178 : Cx J178 (GPending × Int) where
  nt := 54
  rvs := [.cell 4 35, .tmp 5]
  mh := []
  res := fun y => [.agg (((GPending.cs y.1).map R.c).set 21 (.own 53 4 (E.GSend.L y.1.Sends))), .one (.c (.int .i64 y.2))]
  outs := fun y => []
  path := fun
    | .s0 _ _ _ _ _ => [0, 1, 0, 1, 1, 1, 1]
  sig := fun
    | .s0 _ _ _ _ _ => [2, 3, 4, 8, 9]
  snap := fun
    | .s0 p_t2 e_t3 t4 out_t8 i_t9 => ⟨[(2, .one (.ptr 0 1 0)), (3, .one (.ptr 1 1 0)), (4, .one (.ptr 2 1 0)), (8, .one (.own 3 1)), (9, .one (.c (.int .i64 i_t9)))], [((0, 1), .box ((GPending.cs p_t2).map A.c)), ((1, 1), .box ((GEvent.cs e_t3).map A.c)), ((2, 1), .box ((((((((((((GPending.cs t4).map A.c).set 10 .nil).set 11 .nil).set 15 .nil).set 16 .nil).set 18 .nil).set 19 .nil).set 20 .nil).set 21 .nil).set 22 .nil).set 23 .nil)), ((3, 1), .arr 53 4 (E.GSend.L out_t8))]⟩
noncomputable def a178 (p_0 : GPending) (e_1 : GEvent) : Cert prog J178 (GPending × Int) :=
 .call m32 (p_0, e_1.Seq) fun r1 =>
 .ite 19 (!r1.2)
 (.ret (zP, 15))
 (.ite 25 (r1.1.Event != e_1.Ref)
 (.ret (zP, 15))
 (.adoptT 8 53 4 <|
 .jump (.s0 p_0 e_1 zP [] 0) [(2000, 1), (3000, 1), (4000, 1), (8999, 1)]))
noncomputable def c178 : J178 → Cert prog J178 (GPending × Int)
| .s0 p_t2 e_t3 t4 out_t8 i_t9 =>
 .len E.GSend p_t2.Sends <|
 .ite 31 (decide (i_t9 < (p_t2.Sends.length : Int)))
 (.elem E.GSend p_t2.Sends i_t9 fun a2 =>
 .ite 42 (a2.Seq != e_t3.Seq)
 (.elem E.GSend p_t2.Sends i_t9 fun a3 =>
 .bld E.GSend [a3] <|
 .app E.GSend 48 out_t8 [a3] <|
 .jump (.s0 p_t2 e_t3 (nP t4) (out_t8 ++ [a3]) (IntKind.i64.wrap (i_t9 + 1))) [(0, 1), (1, 1), (2, 1), (50000, 2)])
 (.jump (.s0 p_t2 e_t3 (nP t4) out_t8 (IntKind.i64.wrap (i_t9 + 1))) [(0, 1), (1, 1), (2, 1), (3, 1)]))
 (.ret ((GPending.mk p_t2.Next p_t2.Status p_t2.Task p_t2.TaskID p_t2.Attempt p_t2.Seq p_t2.Name p_t2.Input p_t2.Attrs p_t2.Cancel p_t2.Acts p_t2.Timers p_t2.Kids out_t8 p_t2.Updates p_t2.Requests), 0))
theorem h178 (p_0 : GPending) (e_1 : GEvent) : tp prog x178 b178 (a178 p_0 e_1) (ES.init [.val (.agg ((GPending.cs p_0).map R.c)), .val (.agg ((GEvent.cs e_1).map R.c))]) :=
  of_triv (rs := x178.rs) (snap := x178.snap) (c := a178 p_0 e_1) (by kernel_rfl)
theorem g178 : ∀ j, ck prog x178 b178 c178 j
| .s0 p_t2 e_t3 t4 out_t8 i_t9 => of_triv (rs := x178.rs) (snap := x178.snap) (c := c178 (.s0 p_t2 e_t3 t4 out_t8 i_t9)) (by kernel_rfl)
noncomputable def m178 : Mir prog 178 (GPending × GEvent) (GPending × Int) where
  fs := [.agg (List.replicate 24 none), .agg (List.replicate 24 none)]
  ga := fun x => [.val (.agg ((GPending.cs x.1).map R.c)), .val (.agg ((GEvent.cs x.2).map R.c))]
  caps := fun x => []
  res := x178.res
  outs := x178.outs
  R := fun x y => Rn c178 (a178 x.1 x.2) y
  ok := fun x y h => sysA (cx := x178) follow func178 (h178 x.1 x.2) (g178) y h
  flat := false
  hflat := nofun
inductive J214 where
| s0 (key_t1 : ByteArray) (p_t2 : GPending) (i_t5 : Int)
noncomputable def b214 : Code := f214.body.getD .skip
noncomputable def x214 : Cx J214 Int where
  nt := 22
  rvs := [.tmp 4]
  mh := []
  res := fun y => [.one (.c (.int .i64 y))]
  outs := fun y => []
  path := fun
    | .s0 _ _ _ => [0, 1, 0, 1]
  sig := fun
    | .s0 _ _ _ => [1, 2, 5]
  snap := fun
    | .s0 key_t1 p_t2 i_t5 => ⟨[(1, .one (.c (.str key_t1))), (2, .one (.ptr 0 1 0)), (5, .one (.c (.int .i64 i_t5)))], [((0, 1), .box ((GPending.cs p_t2).map A.c))]⟩
noncomputable def a214 (p_0 : GPending) (key_1 : ByteArray) : Cert prog J214 Int :=
 .jump (.s0 key_1 p_0 0) [(2000, 1)]
noncomputable def c214 : J214 → Cert prog J214 Int
| .s0 key_t1 p_t2 i_t5 =>
 .len E.GUpd p_t2.Updates <|
 .ite 10 (decide (i_t5 < (p_t2.Updates.length : Int)))
 (.elem E.GUpd p_t2.Updates i_t5 fun a1 =>
 .ite 20 (strEq a1.Key key_t1)
 (.ret i_t5)
 (.jump (.s0 key_t1 p_t2 (IntKind.i64.wrap (i_t5 + 1))) [(0, 1)]))
 (.ret (-1))
theorem h214 (p_0 : GPending) (key_1 : ByteArray) : tp prog x214 b214 (a214 p_0 key_1) (ES.init [.val (.agg ((GPending.cs p_0).map R.c)), .val (.one (.c (.str key_1)))]) :=
  of_triv (rs := x214.rs) (snap := x214.snap) (c := a214 p_0 key_1) (by kernel_rfl)
theorem g214 : ∀ j, ck prog x214 b214 c214 j
| .s0 key_t1 p_t2 i_t5 => of_triv (rs := x214.rs) (snap := x214.snap) (c := c214 (.s0 key_t1 p_t2 i_t5)) (by kernel_rfl)
noncomputable def m214 : Mir prog 214 (GPending × ByteArray) Int where
  fs := [.agg (List.replicate 24 none), .one none]
  ga := fun x => [.val (.agg ((GPending.cs x.1).map R.c)), .val (.one (.c (.str x.2)))]
  caps := fun x => []
  res := x214.res
  outs := x214.outs
  R := fun x y => Rn c214 (a214 x.1 x.2) y
  ok := fun x y h => sysA (cx := x214) follow func214 (h214 x.1 x.2) (g214) y h
  flat := true
  hflat := fun _ _ => flatE rfl
noncomputable def b179 : Code := f179.body.getD .skip
noncomputable def x179 : Cx Empty (GPending × Int) where
  nt := 50
  rvs := [.cell 4 35, .tmp 5]
  mh := []
  res := fun y => [.agg (((GPending.cs y.1).map R.c).set 22 (.own 118 2 (E.GUpd.L y.1.Updates))), .one (.c (.int .i64 y.2))]
  outs := fun y => []
  path := nofun
  sig := nofun
  snap := nofun
noncomputable def a179 (p_0 : GPending) (e_1 : GEvent) : Cert prog Empty (GPending × Int) :=
 .call m214 (p_0, e_1.Key) fun r1 =>
 .bld E.GUpd [] <|
 .app E.GUpd 24 [] p_0.Updates <|
 .ite 18 (e_1.Kind == 27)
 (.ite 20 (decide (0 ≤ r1))
 (.ret (zP, 9))
 (.bld E.GUpd [(GUpd.mk e_1.Key false)] <|
 .app E.GUpd 24 ([] ++ p_0.Updates) [(GUpd.mk e_1.Key false)] <|
 .ret ((GPending.mk p_0.Next p_0.Status p_0.Task p_0.TaskID p_0.Attempt p_0.Seq p_0.Name p_0.Input p_0.Attrs p_0.Cancel p_0.Acts p_0.Timers p_0.Kids p_0.Sends (([] ++ p_0.Updates) ++ [(GUpd.mk e_1.Key false)]) p_0.Requests), 0)))
 (.ite 32 (decide (r1 < 0))
 (.ret (zP, 15))
 (.elem E.GUpd p_0.Updates r1 fun a2 =>
 .ite 39 a2.Done
 (.ret (zP, 9))
 (.idx E.GUpd ([] ++ p_0.Updates) r1 <|
 .eset E.GUpd ([] ++ p_0.Updates) r1.toNat (fun _ => (GUpd.mk e_1.Key true)) <|
 .ret ((GPending.mk p_0.Next p_0.Status p_0.Task p_0.TaskID p_0.Attempt p_0.Seq p_0.Name p_0.Input p_0.Attrs p_0.Cancel p_0.Acts p_0.Timers p_0.Kids p_0.Sends (([] ++ p_0.Updates).modify r1.toNat (fun _ => (GUpd.mk e_1.Key true))) p_0.Requests), 0))))
noncomputable def c179 : Empty → Cert prog Empty (GPending × Int) := nofun
theorem h179 (p_0 : GPending) (e_1 : GEvent) : tp prog x179 b179 (a179 p_0 e_1) (ES.init [.val (.agg ((GPending.cs p_0).map R.c)), .val (.agg ((GEvent.cs e_1).map R.c))]) :=
  of_triv (rs := x179.rs) (snap := x179.snap) (c := a179 p_0 e_1) (by kernel_rfl)
theorem g179 : ∀ j, ck prog x179 b179 c179 j := nofun
noncomputable def m179 : Mir prog 179 (GPending × GEvent) (GPending × Int) where
  fs := [.agg (List.replicate 24 none), .agg (List.replicate 24 none)]
  ga := fun x => [.val (.agg ((GPending.cs x.1).map R.c)), .val (.agg ((GEvent.cs x.2).map R.c))]
  caps := fun x => []
  res := x179.res
  outs := x179.outs
  R := fun x y => Rn c179 (a179 x.1 x.2) y
  ok := fun x y h => sysA (cx := x179) follow func179 (h179 x.1 x.2) (g179) y h
  flat := false
  hflat := nofun
inductive J35 where
| s0 (id_t1 : ByteArray) (p_t2 : GPending) (i_t5 : Int)
noncomputable def b35 : Code := f35.body.getD .skip
noncomputable def x35 : Cx J35 Bool where
  nt := 20
  rvs := [.tmp 4]
  mh := []
  res := fun y => [.one (.c (.bool y))]
  outs := fun y => []
  path := fun
    | .s0 _ _ _ => [0, 1, 0, 1]
  sig := fun
    | .s0 _ _ _ => [1, 2, 5]
  snap := fun
    | .s0 id_t1 p_t2 i_t5 => ⟨[(1, .one (.c (.str id_t1))), (2, .one (.ptr 0 1 0)), (5, .one (.c (.int .i64 i_t5)))], [((0, 1), .box ((GPending.cs p_t2).map A.c))]⟩
noncomputable def a35 (p_0 : GPending) (id_1 : ByteArray) : Cert prog J35 Bool :=
 .jump (.s0 id_1 p_0 0) [(2000, 1)]
noncomputable def c35 : J35 → Cert prog J35 Bool
| .s0 id_t1 p_t2 i_t5 =>
 .len E.str p_t2.Requests <|
 .ite 10 (decide (i_t5 < (p_t2.Requests.length : Int)))
 (.elem E.str p_t2.Requests i_t5 fun a1 =>
 .ite 19 (strEq a1 id_t1)
 (.ret true)
 (.jump (.s0 id_t1 p_t2 (IntKind.i64.wrap (i_t5 + 1))) [(0, 1)]))
 (.ret false)
theorem h35 (p_0 : GPending) (id_1 : ByteArray) : tp prog x35 b35 (a35 p_0 id_1) (ES.init [.val (.agg ((GPending.cs p_0).map R.c)), .val (.one (.c (.str id_1)))]) :=
  of_triv (rs := x35.rs) (snap := x35.snap) (c := a35 p_0 id_1) (by kernel_rfl)
theorem g35 : ∀ j, ck prog x35 b35 c35 j
| .s0 id_t1 p_t2 i_t5 => of_triv (rs := x35.rs) (snap := x35.snap) (c := c35 (.s0 id_t1 p_t2 i_t5)) (by kernel_rfl)
noncomputable def m35 : Mir prog 35 (GPending × ByteArray) Bool where
  fs := [.agg (List.replicate 24 none), .one none]
  ga := fun x => [.val (.agg ((GPending.cs x.1).map R.c)), .val (.one (.c (.str x.2)))]
  caps := fun x => []
  res := x35.res
  outs := x35.outs
  R := fun x y => Rn c35 (a35 x.1 x.2) y
  ok := fun x y h => sysA (cx := x35) follow func35 (h35 x.1 x.2) (g35) y h
  flat := true
  hflat := fun _ _ => flatE rfl
noncomputable def b180 : Code := f180.body.getD .skip
noncomputable def x180 : Cx Empty (GPending × Int) where
  nt := 32
  rvs := [.cell 4 35, .tmp 5]
  mh := []
  res := fun y => [.agg (((GPending.cs y.1).map R.c).set 23 (.own 9 1 (E.str.L y.1.Requests))), .one (.c (.int .i64 y.2))]
  outs := fun y => []
  path := nofun
  sig := nofun
  snap := nofun
noncomputable def a180 (p_0 : GPending) (e_1 : GEvent) : Cert prog Empty (GPending × Int) :=
 .call m35 (p_0, e_1.Key) fun r1 =>
 .ite 10 r1
 (.ret (zP, 9))
 (.bld E.str [] <|
 .app E.str 16 [] p_0.Requests <|
 .bld E.str [e_1.Key] <|
 .app E.str 16 ([] ++ p_0.Requests) [e_1.Key] <|
 .ite 25 p_0.Cancel
 (.ret ((GPending.mk p_0.Next p_0.Status p_0.Task p_0.TaskID p_0.Attempt p_0.Seq p_0.Name p_0.Input p_0.Attrs true p_0.Acts p_0.Timers p_0.Kids p_0.Sends p_0.Updates (([] ++ p_0.Requests) ++ [e_1.Key])), 0))
 (.ret ((GPending.mk p_0.Next p_0.Status p_0.Task p_0.TaskID p_0.Attempt p_0.Seq p_0.Name p_0.Input p_0.Attrs (e_1.Kind == 26) p_0.Acts p_0.Timers p_0.Kids p_0.Sends p_0.Updates (([] ++ p_0.Requests) ++ [e_1.Key])), 0)))
noncomputable def c180 : Empty → Cert prog Empty (GPending × Int) := nofun
theorem h180 (p_0 : GPending) (e_1 : GEvent) : tp prog x180 b180 (a180 p_0 e_1) (ES.init [.val (.agg ((GPending.cs p_0).map R.c)), .val (.agg ((GEvent.cs e_1).map R.c))]) :=
  of_triv (rs := x180.rs) (snap := x180.snap) (c := a180 p_0 e_1) (by kernel_rfl)
theorem g180 : ∀ j, ck prog x180 b180 c180 j := nofun
noncomputable def m180 : Mir prog 180 (GPending × GEvent) (GPending × Int) where
  fs := [.agg (List.replicate 24 none), .agg (List.replicate 24 none)]
  ga := fun x => [.val (.agg ((GPending.cs x.1).map R.c)), .val (.agg ((GEvent.cs x.2).map R.c))]
  caps := fun x => []
  res := x180.res
  outs := x180.outs
  R := fun x y => Rn c180 (a180 x.1 x.2) y
  ok := fun x y h => sysA (cx := x180) follow func180 (h180 x.1 x.2) (g180) y h
  flat := false
  hflat := nofun
inductive J215 where
| s0 (key_t1 : ByteArray) (v_t3 : GVal) (x_t5 : GVal) (t6 : GVal) (out_t7 : GVal) (done_t8 : Bool) (i_t9 : Int)
| s1 (key_t1 : ByteArray) (v_t3 : GVal) (x_t5 : GVal) (t6 : GVal) (out_t7 : GVal) (done_t8 : Bool) (i_t9 : Int) (t28 : Bool)
| s2 (key_t1 : ByteArray) (v_t3 : GVal) (x_t5 : GVal) (t6 : GVal) (out_t7 : GVal) (done_t8 : Bool) (i_t9 : Int)
noncomputable def b215 : Code := f215.body.getD .skip
noncomputable def x215 : Cx J215 GVal where
  nt := 83
  rvs := [.cell 6 28]
  mh := []
  res := fun y => [.agg ((((GVal.cs y).map R.c).set 3 (.own 28 5 (E.GVal.L y.Items))).set 4 (.own 9 1 (E.str.L y.Keys)))]
  outs := fun y => []
  path := fun
    | .s0 _ _ _ _ _ _ _ => [0, 1, 0, 1, 1, 1]
    | .s1 _ _ _ _ _ _ _ _ => [1, 0, 0, 0, 1, 0, 0, 1, 0, 1, 1, 1]
    | .s2 _ _ _ _ _ _ _ => [1, 0, 0, 1, 0, 0, 1, 0, 1, 1, 1]
  sig := fun
    | .s0 _ _ _ _ _ _ _ => [1, 3, 5, 6, 7, 8, 9]
    | .s1 _ _ _ _ _ _ _ _ => [1, 3, 5, 6, 7, 8, 9, 28]
    | .s2 _ _ _ _ _ _ _ => [1, 3, 5, 6, 7, 8, 9]
  snap := fun
    | .s0 key_t1 v_t3 x_t5 t6 out_t7 done_t8 i_t9 => ⟨[(1, .one (.c (.str key_t1))), (3, .one (.ptr 0 1 0)), (5, .one (.ptr 1 1 0)), (6, .one (.ptr 2 1 0)), (7, .one (.ptr 3 1 0)), (8, .one (.c (.bool done_t8))), (9, .one (.c (.int .i64 i_t9)))], [((0, 1), .box ((GVal.cs v_t3).map A.c)), ((1, 1), .box ((GVal.cs x_t5).map A.c)), ((2, 1), .box ((((GVal.cs t6).map A.c).set 3 .nil).set 4 .nil)), ((3, 1), .box ((((GVal.cs out_t7).map A.c).set 3 (.own 4 1)).set 4 (.own 5 1))), ((4, 1), .arr 28 5 (E.GVal.L out_t7.Items)), ((5, 1), .arr 9 1 (E.str.L out_t7.Keys))]⟩
    | .s1 key_t1 v_t3 x_t5 t6 out_t7 done_t8 i_t9 t28 => ⟨[(1, .one (.c (.str key_t1))), (3, .one (.ptr 0 1 0)), (5, .one (.ptr 1 1 0)), (6, .one (.ptr 2 1 0)), (7, .one (.ptr 3 1 0)), (8, .one (.c (.bool done_t8))), (9, .one (.c (.int .i64 i_t9))), (28, .one (.c (.bool t28)))], [((0, 1), .box ((GVal.cs v_t3).map A.c)), ((1, 1), .box ((GVal.cs x_t5).map A.c)), ((2, 1), .box ((((GVal.cs t6).map A.c).set 3 .nil).set 4 .nil)), ((3, 1), .box ((((GVal.cs out_t7).map A.c).set 3 (.own 4 1)).set 4 (.own 5 1))), ((4, 1), .arr 28 5 (E.GVal.L out_t7.Items)), ((5, 1), .arr 9 1 (E.str.L out_t7.Keys))]⟩
    | .s2 key_t1 v_t3 x_t5 t6 out_t7 done_t8 i_t9 => ⟨[(1, .one (.c (.str key_t1))), (3, .one (.ptr 0 1 0)), (5, .one (.ptr 1 1 0)), (6, .one (.ptr 2 1 0)), (7, .one (.ptr 3 1 0)), (8, .one (.c (.bool done_t8))), (9, .one (.c (.int .i64 i_t9)))], [((0, 1), .box ((GVal.cs v_t3).map A.c)), ((1, 1), .box ((GVal.cs x_t5).map A.c)), ((2, 1), .box ((((GVal.cs t6).map A.c).set 3 .nil).set 4 .nil)), ((3, 1), .box ((((GVal.cs out_t7).map A.c).set 3 (.own 4 1)).set 4 (.own 5 1))), ((4, 1), .arr 28 5 (E.GVal.L out_t7.Items)), ((5, 1), .arr 9 1 (E.str.L out_t7.Keys))]⟩
noncomputable def a215 (v_0 : GVal) (key_1 : ByteArray) (x_2 : GVal) : Cert prog J215 GVal :=
 .adoptB 7000 1 3 28 5 <|
 .adoptB 7000 1 4 9 1 <|
 .jump (.s0 key_1 v_0 x_2 zV (GVal.mk 5 0 eB [] []) false 0) [(3000, 1), (5000, 1), (6000, 1), (7000, 1), (3998, 1), (4998, 1)]
noncomputable def c215 : J215 → Cert prog J215 GVal
| .s0 key_t1 v_t3 x_t5 t6 out_t7 done_t8 i_t9 =>
 .len E.str v_t3.Keys <|
 .ite 15 (decide (i_t9 < (v_t3.Keys.length : Int)))
 (.ite 20 (!done_t8)
 (.elem E.str v_t3.Keys i_t9 fun a1 =>
 .jump (.s1 key_t1 v_t3 x_t5 (nV t6) out_t7 done_t8 i_t9 (!strLt a1 key_t1)) [(0, 1), (1, 1), (2, 1), (3, 1), (4, 1), (5, 1)])
 (.jump (.s1 key_t1 v_t3 x_t5 (nV t6) out_t7 done_t8 i_t9 false) [(0, 1), (1, 1), (2, 1), (3, 1), (4, 1), (5, 1)]))
 (.ite 69 (!done_t8)
 (.bld E.str [key_t1] <|
 .app E.str 16 out_t7.Keys [key_t1] <|
 .bld E.GVal [x_t5] <|
 .app E.GVal 80 out_t7.Items [x_t5] <|
 .ret (GVal.mk out_t7.Kind out_t7.Num out_t7.Text (out_t7.Items ++ [x_t5]) (out_t7.Keys ++ [key_t1])))
 (.ret out_t7))
| .s1 key_t1 v_t3 x_t5 t6 out_t7 done_t8 i_t9 t28 =>
 .ite 28 t28
 (.bld E.str [key_t1] <|
 .app E.str 16 out_t7.Keys [key_t1] <|
 .bld E.GVal [x_t5] <|
 .app E.GVal 80 out_t7.Items [x_t5] <|
 .jump (.s2 key_t1 v_t3 x_t5 (nV t6) (GVal.mk out_t7.Kind out_t7.Num out_t7.Text (out_t7.Items ++ [x_t5]) (out_t7.Keys ++ [key_t1])) true i_t9) [(0, 1), (1, 1), (2, 1), (3, 1), (39000, 2), (33000, 2)])
 (.jump (.s2 key_t1 v_t3 x_t5 (nV t6) out_t7 done_t8 i_t9) [(0, 1), (1, 1), (2, 1), (3, 1), (4, 1), (5, 1)])
| .s2 key_t1 v_t3 x_t5 t6 out_t7 done_t8 i_t9 =>
 .elem E.str v_t3.Keys i_t9 fun a2 =>
 .ite 47 (!strEq a2 key_t1)
 (.elem E.str v_t3.Keys i_t9 fun a3 =>
 .bld E.str [a3] <|
 .app E.str 16 out_t7.Keys [a3] <|
 .elem E.GVal v_t3.Items i_t9 fun a4 =>
 .bld E.GVal [a4] <|
 .app E.GVal 80 out_t7.Items [a4] <|
 .jump (.s0 key_t1 v_t3 x_t5 (nV t6) (GVal.mk out_t7.Kind out_t7.Num out_t7.Text (out_t7.Items ++ [a4]) (out_t7.Keys ++ [a3])) done_t8 (IntKind.i64.wrap (i_t9 + 1))) [(0, 1), (1, 1), (2, 1), (3, 1), (66000, 2), (56000, 2)])
 (.jump (.s0 key_t1 v_t3 x_t5 (nV t6) out_t7 done_t8 (IntKind.i64.wrap (i_t9 + 1))) [(0, 1), (1, 1), (2, 1), (3, 1), (4, 1), (5, 1)])
theorem h215 (v_0 : GVal) (key_1 : ByteArray) (x_2 : GVal) : tp prog x215 b215 (a215 v_0 key_1 x_2) (ES.init [.val (.agg ((GVal.cs v_0).map R.c)), .val (.one (.c (.str key_1))), .val (.agg ((GVal.cs x_2).map R.c))]) :=
  of_triv (rs := x215.rs) (snap := x215.snap) (c := a215 v_0 key_1 x_2) (by kernel_rfl)
theorem g215 : ∀ j, ck prog x215 b215 c215 j
| .s0 key_t1 v_t3 x_t5 t6 out_t7 done_t8 i_t9 => of_triv (rs := x215.rs) (snap := x215.snap) (c := c215 (.s0 key_t1 v_t3 x_t5 t6 out_t7 done_t8 i_t9)) (by kernel_rfl)
| .s1 key_t1 v_t3 x_t5 t6 out_t7 done_t8 i_t9 t28 => of_triv (rs := x215.rs) (snap := x215.snap) (c := c215 (.s1 key_t1 v_t3 x_t5 t6 out_t7 done_t8 i_t9 t28)) (by kernel_rfl)
| .s2 key_t1 v_t3 x_t5 t6 out_t7 done_t8 i_t9 => of_triv (rs := x215.rs) (snap := x215.snap) (c := c215 (.s2 key_t1 v_t3 x_t5 t6 out_t7 done_t8 i_t9)) (by kernel_rfl)
noncomputable def m215 : Mir prog 215 (GVal × ByteArray × GVal) GVal where
  fs := [.agg (List.replicate 5 none), .one none, .agg (List.replicate 5 none)]
  ga := fun x => [.val (.agg ((GVal.cs x.1).map R.c)), .val (.one (.c (.str x.2.1))), .val (.agg ((GVal.cs x.2.2).map R.c))]
  caps := fun x => []
  res := x215.res
  outs := x215.outs
  R := fun x y => Rn c215 (a215 x.1 x.2.1 x.2.2) y
  ok := fun x y h => sysA (cx := x215) follow func215 (h215 x.1 x.2.1 x.2.2) (g215) y h
  flat := false
  hflat := nofun
inductive J181 where
| s0 (p_t2 : GPending) (e_t3 : GEvent) (t4 : GPending) (v_t6 : GVal) (i_t7 : Int)
noncomputable def b181 : Code := f181.body.getD .skip
noncomputable def x181 : Cx J181 (GPending × Int) where
  nt := 39
  rvs := [.cell 4 35, .tmp 5]
  mh := []
  res := fun y => [.agg ((GPending.cs y.1).map R.c), .one (.c (.int .i64 y.2))]
  outs := fun y => []
  path := fun
    | .s0 _ _ _ _ _ => [0, 1, 0, 1, 1]
  sig := fun
    | .s0 _ _ _ _ _ => [2, 3, 4, 6, 7]
  snap := fun
    | .s0 p_t2 e_t3 t4 v_t6 i_t7 => ⟨[(2, .one (.ptr 0 1 0)), (3, .one (.ptr 1 1 0)), (4, .one (.ptr 2 1 0)), (6, .one (.ptr 3 1 0)), (7, .one (.c (.int .i64 i_t7)))], [((0, 1), .box ((GPending.cs p_t2).map A.c)), ((1, 1), .box ((GEvent.cs e_t3).map A.c)), ((2, 1), .box ((((((((((((GPending.cs t4).map A.c).set 10 .nil).set 11 .nil).set 15 .nil).set 16 .nil).set 18 .nil).set 19 .nil).set 20 .nil).set 21 .nil).set 22 .nil).set 23 .nil)), ((3, 1), .box ((GVal.cs v_t6).map A.c))]⟩
noncomputable def a181 (p_0 : GPending) (e_1 : GEvent) : Cert prog J181 (GPending × Int) :=
 .jump (.s0 p_0 e_1 zP p_0.Attrs 0) [(2000, 1), (3000, 1), (4000, 1), (6000, 1)]
noncomputable def c181 : J181 → Cert prog J181 (GPending × Int)
| .s0 p_t2 e_t3 t4 v_t6 i_t7 =>
 .len E.str e_t3.Data.Keys <|
 .ite 15 (decide (i_t7 < (e_t3.Data.Keys.length : Int)))
 (.elem E.str e_t3.Data.Keys i_t7 fun a1 =>
 .elem E.GVal e_t3.Data.Items i_t7 fun a2 =>
 .call m215 (v_t6, a1, a2) fun r3 =>
 .frz 31003 2 <|
 .frz 31004 2 <|
 .jump (.s0 p_t2 e_t3 (nP t4) r3 (IntKind.i64.wrap (i_t7 + 1))) [(0, 1), (1, 1), (2, 1), (3, 1)])
 (.call m158 v_t6 fun r4 =>
 .ite 34 (!r4)
 (.ret (zP, 6))
 (.ret ((GPending.mk p_t2.Next p_t2.Status p_t2.Task p_t2.TaskID p_t2.Attempt p_t2.Seq p_t2.Name p_t2.Input v_t6 p_t2.Cancel p_t2.Acts p_t2.Timers p_t2.Kids p_t2.Sends p_t2.Updates p_t2.Requests), 0)))
theorem h181 (p_0 : GPending) (e_1 : GEvent) : tp prog x181 b181 (a181 p_0 e_1) (ES.init [.val (.agg ((GPending.cs p_0).map R.c)), .val (.agg ((GEvent.cs e_1).map R.c))]) :=
  of_triv (rs := x181.rs) (snap := x181.snap) (c := a181 p_0 e_1) (by kernel_rfl)
theorem g181 : ∀ j, ck prog x181 b181 c181 j
| .s0 p_t2 e_t3 t4 v_t6 i_t7 => of_triv (rs := x181.rs) (snap := x181.snap) (c := c181 (.s0 p_t2 e_t3 t4 v_t6 i_t7)) (by kernel_rfl)
noncomputable def m181 : Mir prog 181 (GPending × GEvent) (GPending × Int) where
  fs := [.agg (List.replicate 24 none), .agg (List.replicate 24 none)]
  ga := fun x => [.val (.agg ((GPending.cs x.1).map R.c)), .val (.agg ((GEvent.cs x.2).map R.c))]
  caps := fun x => []
  res := x181.res
  outs := x181.outs
  R := fun x y => Rn c181 (a181 x.1 x.2) y
  ok := fun x y h => sysA (cx := x181) follow func181 (h181 x.1 x.2) (g181) y h
  flat := false
  hflat := nofun
inductive J116 where
| s0 (p_t2 : GPending) (e_t3 : GEvent) (t4 : GPending) (t22 : Int) (t23 : Bool)
| s1 (p_t2 : GPending) (e_t3 : GEvent) (t4 : GPending) (t22 : Int) (t34 : Bool)
| s2 (p_t2 : GPending) (e_t3 : GEvent) (t4 : GPending) (t22 : Int) (t44 : Bool)
| s3 (p_t2 : GPending) (e_t3 : GEvent) (t4 : GPending) (t22 : Int) (t56 : Bool)
| s4 (p_t2 : GPending) (e_t3 : GEvent) (t4 : GPending) (t22 : Int) (t64 : Bool)
| s5 (p_t2 : GPending) (e_t3 : GEvent) (t4 : GPending) (t22 : Int) (t73 : Bool)
| s6 (p_t2 : GPending) (e_t3 : GEvent) (t4 : GPending) (t22 : Int) (t81 : Bool)
| s7 (p_t2 : GPending) (e_t3 : GEvent) (t4 : GPending) (t22 : Int) (t89 : Bool)
noncomputable def b116 : Code := f116.body.getD .skip
noncomputable def x116 : Cx J116 (GPending × Int) where
  nt := 105
  rvs := [.cell 4 35, .tmp 5]
  mh := []
  res := fun y => [.agg ((GPending.cs y.1).map R.c), .one (.c (.int .i64 y.2))]
  outs := fun y => []
  path := fun
    | .s0 _ _ _ _ _ => [1, 0, 1, 0, 1, 1, 1]
    | .s1 _ _ _ _ _ => [1, 1, 1, 0, 1, 0, 1, 1, 1]
    | .s2 _ _ _ _ _ => [1, 1, 1, 1, 1, 0, 1, 0, 1, 1, 1]
    | .s3 _ _ _ _ _ => [1, 1, 1, 1, 1, 1, 1, 0, 1, 0, 1, 1, 1]
    | .s4 _ _ _ _ _ => [1, 1, 1, 1, 1, 1, 1, 1, 1, 0, 1, 0, 1, 1, 1]
    | .s5 _ _ _ _ _ => [1, 1, 1, 1, 1, 1, 1, 1, 1, 1, 1, 0, 1, 0, 1, 1, 1]
    | .s6 _ _ _ _ _ => [1, 1, 1, 1, 1, 1, 1, 1, 1, 1, 1, 1, 1, 0, 1, 0, 1, 1, 1]
    | .s7 _ _ _ _ _ => [1, 1, 1, 1, 1, 1, 1, 1, 1, 1, 1, 1, 1, 1, 1, 0, 1, 0, 1, 1, 1]
  sig := fun
    | .s0 _ _ _ _ _ => [2, 3, 4, 22, 23]
    | .s1 _ _ _ _ _ => [2, 3, 4, 22, 34]
    | .s2 _ _ _ _ _ => [2, 3, 4, 22, 44]
    | .s3 _ _ _ _ _ => [2, 3, 4, 22, 56]
    | .s4 _ _ _ _ _ => [2, 3, 4, 22, 64]
    | .s5 _ _ _ _ _ => [2, 3, 4, 22, 73]
    | .s6 _ _ _ _ _ => [2, 3, 4, 22, 81]
    | .s7 _ _ _ _ _ => [2, 3, 4, 22, 89]
  snap := fun
    | .s0 p_t2 e_t3 t4 t22 t23 => ⟨[(2, .one (.ptr 0 1 0)), (3, .one (.ptr 1 1 0)), (4, .one (.ptr 2 1 0)), (22, .one (.c (.int .i64 t22))), (23, .one (.c (.bool t23)))], [((0, 1), .box ((GPending.cs p_t2).map A.c)), ((1, 1), .box ((GEvent.cs e_t3).map A.c)), ((2, 1), .box ((((((((((((GPending.cs t4).map A.c).set 10 .nil).set 11 .nil).set 15 .nil).set 16 .nil).set 18 .nil).set 19 .nil).set 20 .nil).set 21 .nil).set 22 .nil).set 23 .nil))]⟩
    | .s1 p_t2 e_t3 t4 t22 t34 => ⟨[(2, .one (.ptr 0 1 0)), (3, .one (.ptr 1 1 0)), (4, .one (.ptr 2 1 0)), (22, .one (.c (.int .i64 t22))), (34, .one (.c (.bool t34)))], [((0, 1), .box ((GPending.cs p_t2).map A.c)), ((1, 1), .box ((GEvent.cs e_t3).map A.c)), ((2, 1), .box ((((((((((((GPending.cs t4).map A.c).set 10 .nil).set 11 .nil).set 15 .nil).set 16 .nil).set 18 .nil).set 19 .nil).set 20 .nil).set 21 .nil).set 22 .nil).set 23 .nil))]⟩
    | .s2 p_t2 e_t3 t4 t22 t44 => ⟨[(2, .one (.ptr 0 1 0)), (3, .one (.ptr 1 1 0)), (4, .one (.ptr 2 1 0)), (22, .one (.c (.int .i64 t22))), (44, .one (.c (.bool t44)))], [((0, 1), .box ((GPending.cs p_t2).map A.c)), ((1, 1), .box ((GEvent.cs e_t3).map A.c)), ((2, 1), .box ((((((((((((GPending.cs t4).map A.c).set 10 .nil).set 11 .nil).set 15 .nil).set 16 .nil).set 18 .nil).set 19 .nil).set 20 .nil).set 21 .nil).set 22 .nil).set 23 .nil))]⟩
    | .s3 p_t2 e_t3 t4 t22 t56 => ⟨[(2, .one (.ptr 0 1 0)), (3, .one (.ptr 1 1 0)), (4, .one (.ptr 2 1 0)), (22, .one (.c (.int .i64 t22))), (56, .one (.c (.bool t56)))], [((0, 1), .box ((GPending.cs p_t2).map A.c)), ((1, 1), .box ((GEvent.cs e_t3).map A.c)), ((2, 1), .box ((((((((((((GPending.cs t4).map A.c).set 10 .nil).set 11 .nil).set 15 .nil).set 16 .nil).set 18 .nil).set 19 .nil).set 20 .nil).set 21 .nil).set 22 .nil).set 23 .nil))]⟩
    | .s4 p_t2 e_t3 t4 t22 t64 => ⟨[(2, .one (.ptr 0 1 0)), (3, .one (.ptr 1 1 0)), (4, .one (.ptr 2 1 0)), (22, .one (.c (.int .i64 t22))), (64, .one (.c (.bool t64)))], [((0, 1), .box ((GPending.cs p_t2).map A.c)), ((1, 1), .box ((GEvent.cs e_t3).map A.c)), ((2, 1), .box ((((((((((((GPending.cs t4).map A.c).set 10 .nil).set 11 .nil).set 15 .nil).set 16 .nil).set 18 .nil).set 19 .nil).set 20 .nil).set 21 .nil).set 22 .nil).set 23 .nil))]⟩
    | .s5 p_t2 e_t3 t4 t22 t73 => ⟨[(2, .one (.ptr 0 1 0)), (3, .one (.ptr 1 1 0)), (4, .one (.ptr 2 1 0)), (22, .one (.c (.int .i64 t22))), (73, .one (.c (.bool t73)))], [((0, 1), .box ((GPending.cs p_t2).map A.c)), ((1, 1), .box ((GEvent.cs e_t3).map A.c)), ((2, 1), .box ((((((((((((GPending.cs t4).map A.c).set 10 .nil).set 11 .nil).set 15 .nil).set 16 .nil).set 18 .nil).set 19 .nil).set 20 .nil).set 21 .nil).set 22 .nil).set 23 .nil))]⟩
    | .s6 p_t2 e_t3 t4 t22 t81 => ⟨[(2, .one (.ptr 0 1 0)), (3, .one (.ptr 1 1 0)), (4, .one (.ptr 2 1 0)), (22, .one (.c (.int .i64 t22))), (81, .one (.c (.bool t81)))], [((0, 1), .box ((GPending.cs p_t2).map A.c)), ((1, 1), .box ((GEvent.cs e_t3).map A.c)), ((2, 1), .box ((((((((((((GPending.cs t4).map A.c).set 10 .nil).set 11 .nil).set 15 .nil).set 16 .nil).set 18 .nil).set 19 .nil).set 20 .nil).set 21 .nil).set 22 .nil).set 23 .nil))]⟩
    | .s7 p_t2 e_t3 t4 t22 t89 => ⟨[(2, .one (.ptr 0 1 0)), (3, .one (.ptr 1 1 0)), (4, .one (.ptr 2 1 0)), (22, .one (.c (.int .i64 t22))), (89, .one (.c (.bool t89)))], [((0, 1), .box ((GPending.cs p_t2).map A.c)), ((1, 1), .box ((GEvent.cs e_t3).map A.c)), ((2, 1), .box ((((((((((((GPending.cs t4).map A.c).set 10 .nil).set 11 .nil).set 15 .nil).set 16 .nil).set 18 .nil).set 19 .nil).set 20 .nil).set 21 .nil).set 22 .nil).set 23 .nil))]⟩
noncomputable def a116 (p_0 : GPending) (e_1 : GEvent) : Cert prog J116 (GPending × Int) :=
 .call m172 e_1.Kind fun r1 =>
 .ite 14 r1.2
 (.ret ((GPending.mk p_0.Next r1.1 0 0 0 p_0.Seq p_0.Name p_0.Input p_0.Attrs p_0.Cancel p_0.Acts p_0.Timers p_0.Kids p_0.Sends p_0.Updates p_0.Requests), 0))
 (.ite 23 (e_1.Kind == 2)
 (.jump (.s0 p_0 e_1 zP e_1.Kind true) [(2000, 1), (3000, 1), (4000, 1)])
 (.ite 23 (e_1.Kind == 3)
 (.jump (.s0 p_0 e_1 zP e_1.Kind true) [(2000, 1), (3000, 1), (4000, 1)])
 (.ite 23 (e_1.Kind == 4)
 (.jump (.s0 p_0 e_1 zP e_1.Kind true) [(2000, 1), (3000, 1), (4000, 1)])
 (.ite 23 (e_1.Kind == 5)
 (.jump (.s0 p_0 e_1 zP e_1.Kind true) [(2000, 1), (3000, 1), (4000, 1)])
 (.jump (.s0 p_0 e_1 zP e_1.Kind (e_1.Kind == 6)) [(2000, 1), (3000, 1), (4000, 1)])))))
noncomputable def c116 : J116 → Cert prog J116 (GPending × Int)
| .s0 p_t2 e_t3 t4 t22 t23 =>
 .ite 23 t23
 (.call m173 (p_t2, e_t3) fun r2 =>
 .ret (r2.1, r2.2))
 (.ite 34 (t22 == 7)
 (.jump (.s1 p_t2 e_t3 (nP t4) t22 true) [(0, 1), (1, 1), (2, 1)])
 (.ite 34 (t22 == 14)
 (.jump (.s1 p_t2 e_t3 (nP t4) t22 true) [(0, 1), (1, 1), (2, 1)])
 (.ite 34 (t22 == 19)
 (.jump (.s1 p_t2 e_t3 (nP t4) t22 true) [(0, 1), (1, 1), (2, 1)])
 (.jump (.s1 p_t2 e_t3 (nP t4) t22 (t22 == 23)) [(0, 1), (1, 1), (2, 1)]))))
| .s1 p_t2 e_t3 t4 t22 t34 =>
 .ite 34 t34
 (.call m174 (p_t2, e_t3) fun r3 =>
 .ret (r3.1, r3.2))
 (.ite 44 (t22 == 8)
 (.jump (.s2 p_t2 e_t3 (nP t4) t22 true) [(0, 1), (1, 1), (2, 1)])
 (.ite 44 (t22 == 9)
 (.jump (.s2 p_t2 e_t3 (nP t4) t22 true) [(0, 1), (1, 1), (2, 1)])
 (.ite 44 (t22 == 10)
 (.jump (.s2 p_t2 e_t3 (nP t4) t22 true) [(0, 1), (1, 1), (2, 1)])
 (.ite 44 (t22 == 11)
 (.jump (.s2 p_t2 e_t3 (nP t4) t22 true) [(0, 1), (1, 1), (2, 1)])
 (.ite 44 (t22 == 12)
 (.jump (.s2 p_t2 e_t3 (nP t4) t22 true) [(0, 1), (1, 1), (2, 1)])
 (.jump (.s2 p_t2 e_t3 (nP t4) t22 (t22 == 13)) [(0, 1), (1, 1), (2, 1)]))))))
| .s2 p_t2 e_t3 t4 t22 t44 =>
 .ite 44 t44
 (.call m175 (p_t2, e_t3) fun r4 =>
 .ret (r4.1, r4.2))
 (.ite 56 (t22 == 15)
 (.jump (.s3 p_t2 e_t3 (nP t4) t22 true) [(0, 1), (1, 1), (2, 1)])
 (.jump (.s3 p_t2 e_t3 (nP t4) t22 (t22 == 16)) [(0, 1), (1, 1), (2, 1)]))
| .s3 p_t2 e_t3 t4 t22 t56 =>
 .ite 56 t56
 (.call m176 (p_t2, e_t3) fun r5 =>
 .ret (r5.1, r5.2))
 (.ite 64 (t22 == 20)
 (.jump (.s4 p_t2 e_t3 (nP t4) t22 true) [(0, 1), (1, 1), (2, 1)])
 (.ite 64 (t22 == 21)
 (.jump (.s4 p_t2 e_t3 (nP t4) t22 true) [(0, 1), (1, 1), (2, 1)])
 (.jump (.s4 p_t2 e_t3 (nP t4) t22 (t22 == 22)) [(0, 1), (1, 1), (2, 1)])))
| .s4 p_t2 e_t3 t4 t22 t64 =>
 .ite 64 t64
 (.call m177 (p_t2, e_t3) fun r6 =>
 .ret (r6.1, r6.2))
 (.ite 73 (t22 == 24)
 (.jump (.s5 p_t2 e_t3 (nP t4) t22 true) [(0, 1), (1, 1), (2, 1)])
 (.jump (.s5 p_t2 e_t3 (nP t4) t22 (t22 == 25)) [(0, 1), (1, 1), (2, 1)]))
| .s5 p_t2 e_t3 t4 t22 t73 =>
 .ite 73 t73
 (.call m178 (p_t2, e_t3) fun r7 =>
 .ret (r7.1, r7.2))
 (.ite 81 (t22 == 27)
 (.jump (.s6 p_t2 e_t3 (nP t4) t22 true) [(0, 1), (1, 1), (2, 1)])
 (.jump (.s6 p_t2 e_t3 (nP t4) t22 (t22 == 28)) [(0, 1), (1, 1), (2, 1)]))
| .s6 p_t2 e_t3 t4 t22 t81 =>
 .ite 81 t81
 (.call m179 (p_t2, e_t3) fun r8 =>
 .ret (r8.1, r8.2))
 (.ite 89 (t22 == 17)
 (.jump (.s7 p_t2 e_t3 (nP t4) t22 true) [(0, 1), (1, 1), (2, 1)])
 (.jump (.s7 p_t2 e_t3 (nP t4) t22 (t22 == 26)) [(0, 1), (1, 1), (2, 1)]))
| .s7 p_t2 e_t3 t4 t22 t89 =>
 .ite 89 t89
 (.call m180 (p_t2, e_t3) fun r9 =>
 .ret (r9.1, r9.2))
 (.ite 97 (t22 == 29)
 (.call m181 (p_t2, e_t3) fun r10 =>
 .ret (r10.1, r10.2))
 (.ret (p_t2, 0)))
theorem h116 (p_0 : GPending) (e_1 : GEvent) : tp prog x116 b116 (a116 p_0 e_1) (ES.init [.val (.agg ((GPending.cs p_0).map R.c)), .val (.agg ((GEvent.cs e_1).map R.c))]) :=
  of_triv (rs := x116.rs) (snap := x116.snap) (c := a116 p_0 e_1) (by kernel_rfl)
theorem g116 : ∀ j, ck prog x116 b116 c116 j
| .s0 p_t2 e_t3 t4 t22 t23 => of_triv (rs := x116.rs) (snap := x116.snap) (c := c116 (.s0 p_t2 e_t3 t4 t22 t23)) (by kernel_rfl)
| .s1 p_t2 e_t3 t4 t22 t34 => of_triv (rs := x116.rs) (snap := x116.snap) (c := c116 (.s1 p_t2 e_t3 t4 t22 t34)) (by kernel_rfl)
| .s2 p_t2 e_t3 t4 t22 t44 => of_triv (rs := x116.rs) (snap := x116.snap) (c := c116 (.s2 p_t2 e_t3 t4 t22 t44)) (by kernel_rfl)
| .s3 p_t2 e_t3 t4 t22 t56 => of_triv (rs := x116.rs) (snap := x116.snap) (c := c116 (.s3 p_t2 e_t3 t4 t22 t56)) (by kernel_rfl)
| .s4 p_t2 e_t3 t4 t22 t64 => of_triv (rs := x116.rs) (snap := x116.snap) (c := c116 (.s4 p_t2 e_t3 t4 t22 t64)) (by kernel_rfl)
| .s5 p_t2 e_t3 t4 t22 t73 => of_triv (rs := x116.rs) (snap := x116.snap) (c := c116 (.s5 p_t2 e_t3 t4 t22 t73)) (by kernel_rfl)
| .s6 p_t2 e_t3 t4 t22 t81 => of_triv (rs := x116.rs) (snap := x116.snap) (c := c116 (.s6 p_t2 e_t3 t4 t22 t81)) (by kernel_rfl)
| .s7 p_t2 e_t3 t4 t22 t89 => of_triv (rs := x116.rs) (snap := x116.snap) (c := c116 (.s7 p_t2 e_t3 t4 t22 t89)) (by kernel_rfl)
noncomputable def m116 : Mir prog 116 (GPending × GEvent) (GPending × Int) where
  fs := [.agg (List.replicate 24 none), .agg (List.replicate 24 none)]
  ga := fun x => [.val (.agg ((GPending.cs x.1).map R.c)), .val (.agg ((GEvent.cs x.2).map R.c))]
  caps := fun x => []
  res := x116.res
  outs := x116.outs
  R := fun x y => Rn c116 (a116 x.1 x.2) y
  ok := fun x y h => sysA (cx := x116) follow func116 (h116 x.1 x.2) (g116) y h
  flat := false
  hflat := nofun
noncomputable def b79 : Code := f79.body.getD .skip
noncomputable def x79 : Cx Empty (GPending × Int) where
  nt := 23
  rvs := [.cell 2 35, .tmp 3]
  mh := []
  res := fun y => [.agg ((GPending.cs y.1).map R.c), .one (.c (.int .i64 y.2))]
  outs := fun y => []
  path := nofun
  sig := nofun
  snap := nofun
noncomputable def a79 (e_0 : GEvent) : Cert prog Empty (GPending × Int) :=
 .call m115 e_0 fun r1 =>
 .ite 7 (!r1)
 (.ret (zP, 11))
 (.ite 11 (e_0.Kind != 1)
 (.ret (zP, 11))
 (.ite 15 (e_0.ID != 1)
 (.ret (zP, 30))
 (.ret ((GPending.mk 2 0 0 0 0 0 e_0.Name e_0.Data (GVal.mk 5 0 eB [] []) false [] [] [] [] [] []), 0))))
noncomputable def c79 : Empty → Cert prog Empty (GPending × Int) := nofun
theorem h79 (e_0 : GEvent) : tp prog x79 b79 (a79 e_0) (ES.init [.val (.agg ((GEvent.cs e_0).map R.c))]) :=
  of_triv (rs := x79.rs) (snap := x79.snap) (c := a79 e_0) (by kernel_rfl)
theorem g79 : ∀ j, ck prog x79 b79 c79 j := nofun
noncomputable def m79 : Mir prog 79 GEvent (GPending × Int) where
  fs := [.agg (List.replicate 24 none)]
  ga := fun x => [.val (.agg ((GEvent.cs x).map R.c))]
  caps := fun x => []
  res := x79.res
  outs := x79.outs
  R := fun x y => Rn c79 (a79 x) y
  ok := fun x y h => sysA (cx := x79) follow func79 (h79 x) (g79) y h
  flat := false
  hflat := nofun
noncomputable def b58 : Code := f58.body.getD .skip
noncomputable def x58 : Cx Empty (GPending × Int) where
  nt := 42
  rvs := [.cell 4 35, .tmp 5]
  mh := []
  res := fun y => [.agg ((GPending.cs y.1).map R.c), .one (.c (.int .i64 y.2))]
  outs := fun y => []
  path := nofun
  sig := nofun
  snap := nofun
noncomputable def a58 (p_0 : GPending) (e_1 : GEvent) : Cert prog Empty (GPending × Int) :=
 .call m115 e_1 fun r1 =>
 .ite 11 (!r1)
 (.ret (zP, 11))
 (.ite 15 (e_1.Kind == 1)
 (.ret (zP, 11))
 (.ite 21 (e_1.ID != p_0.Next)
 (.ret (zP, 30))
 (.ite 25 (p_0.Status != 0)
 (.ret (zP, 17))
 (.call m116 (p_0, e_1) fun r2 =>
 .ite 34 (r2.2 != 0)
 (.ret (zP, r2.2))
 (.ret ((GPending.mk (IntKind.i64.wrap (p_0.Next + 1)) r2.1.Status r2.1.Task r2.1.TaskID r2.1.Attempt r2.1.Seq r2.1.Name r2.1.Input r2.1.Attrs r2.1.Cancel r2.1.Acts r2.1.Timers r2.1.Kids r2.1.Sends r2.1.Updates r2.1.Requests), 0))))))
noncomputable def c58 : Empty → Cert prog Empty (GPending × Int) := nofun
theorem h58 (p_0 : GPending) (e_1 : GEvent) : tp prog x58 b58 (a58 p_0 e_1) (ES.init [.val (.agg ((GPending.cs p_0).map R.c)), .val (.agg ((GEvent.cs e_1).map R.c))]) :=
  of_triv (rs := x58.rs) (snap := x58.snap) (c := a58 p_0 e_1) (by kernel_rfl)
theorem g58 : ∀ j, ck prog x58 b58 c58 j := nofun
noncomputable def m58 : Mir prog 58 (GPending × GEvent) (GPending × Int) where
  fs := [.agg (List.replicate 24 none), .agg (List.replicate 24 none)]
  ga := fun x => [.val (.agg ((GPending.cs x.1).map R.c)), .val (.agg ((GEvent.cs x.2).map R.c))]
  caps := fun x => []
  res := x58.res
  outs := x58.outs
  R := fun x y => Rn c58 (a58 x.1 x.2) y
  ok := fun x y h => sysA (cx := x58) follow func58 (h58 x.1 x.2) (g58) y h
  flat := false
  hflat := nofun
inductive J28 where
| s0 (l_t0 : List GEvent) (t2 : GPending) (p_t4 : GPending) (err_t5 : Int) (i_t6 : Int)
| s1 (t2 : GPending) (p_t4 : GPending) (err_t5 : Int)
noncomputable def b28 : Code := f28.body.getD .skip
noncomputable def x28 : Cx J28 (GPending × Int) where
  nt := 46
  rvs := [.cell 2 35, .tmp 3]
  mh := []
  res := fun y => [.agg ((GPending.cs y.1).map R.c), .one (.c (.int .i64 y.2))]
  outs := fun y => []
  path := fun
    | .s0 _ _ _ _ _ => [0, 1, 0, 1, 1, 1]
    | .s1 _ _ _ => [1, 1, 1, 1]
  sig := fun
    | .s0 _ _ _ _ _ => [0, 2, 4, 5, 6]
    | .s1 _ _ _ => [2, 4, 5]
  snap := fun
    | .s0 l_t0 t2 p_t4 err_t5 i_t6 => ⟨[(0, .one (.c (.sl (E.GEvent.L l_t0)))), (2, .one (.ptr 0 1 0)), (4, .one (.ptr 1 1 0)), (5, .one (.c (.int .i64 err_t5))), (6, .one (.c (.int .i64 i_t6)))], [((0, 1), .box ((((((((((((GPending.cs t2).map A.c).set 10 .nil).set 11 .nil).set 15 .nil).set 16 .nil).set 18 .nil).set 19 .nil).set 20 .nil).set 21 .nil).set 22 .nil).set 23 .nil)), ((1, 1), .box ((GPending.cs p_t4).map A.c))]⟩
    | .s1 t2 p_t4 err_t5 => ⟨[(2, .one (.ptr 0 1 0)), (4, .one (.ptr 1 1 0)), (5, .one (.c (.int .i64 err_t5)))], [((0, 1), .box ((((((((((((GPending.cs t2).map A.c).set 10 .nil).set 11 .nil).set 15 .nil).set 16 .nil).set 18 .nil).set 19 .nil).set 20 .nil).set 21 .nil).set 22 .nil).set 23 .nil)), ((1, 1), .box ((GPending.cs p_t4).map A.c))]⟩
noncomputable def a28 (l_0 : List GEvent) : Cert prog J28 (GPending × Int) :=
 .len E.GEvent l_0 <|
 .ite 11 ((l_0.length : Int) == 0)
 (.ret (zP, 4))
 (.elem E.GEvent l_0 0 fun a1 =>
 .call m79 a1 fun r2 =>
 .jump (.s0 l_0 zP r2.1 r2.2 1) [(2000, 1), (4000, 1)])
noncomputable def c28 : J28 → Cert prog J28 (GPending × Int)
| .s0 l_t0 t2 p_t4 err_t5 i_t6 =>
 .len E.GEvent l_t0 <|
 .ite 24 (decide (i_t6 < (l_t0.length : Int)))
 (.ite 27 (err_t5 == 0)
 (.elem E.GEvent l_t0 i_t6 fun a3 =>
 .call m58 (p_t4, a3) fun r4 =>
 .jump (.s0 l_t0 (nP t2) r4.1 r4.2 (IntKind.i64.wrap (i_t6 + 1))) [(0, 1), (1, 1)])
 (.jump (.s1 (nP t2) p_t4 err_t5) [(0, 1), (1, 1)]))
 (.jump (.s1 (nP t2) p_t4 err_t5) [(0, 1), (1, 1)])
| .s1 t2 p_t4 err_t5 =>
 .ite 42 (err_t5 != 0)
 (.ret (zP, err_t5))
 (.ret (p_t4, 0))
theorem h28 (l_0 : List GEvent) : tp prog x28 b28 (a28 l_0) (ES.init [.val (.one (.c (.sl (E.GEvent.L l_0))))]) :=
  of_triv (rs := x28.rs) (snap := x28.snap) (c := a28 l_0) (by kernel_rfl)
theorem g28 : ∀ j, ck prog x28 b28 c28 j
| .s0 l_t0 t2 p_t4 err_t5 i_t6 => of_triv (rs := x28.rs) (snap := x28.snap) (c := c28 (.s0 l_t0 t2 p_t4 err_t5 i_t6)) (by kernel_rfl)
| .s1 t2 p_t4 err_t5 => of_triv (rs := x28.rs) (snap := x28.snap) (c := c28 (.s1 t2 p_t4 err_t5)) (by kernel_rfl)
noncomputable def m28 : Mir prog 28 (List GEvent) (GPending × Int) where
  fs := [.one none]
  ga := fun x => [.val (.one (.c (.sl (E.GEvent.L x))))]
  caps := fun x => []
  res := x28.res
  outs := x28.outs
  R := fun x y => Rn c28 (a28 x) y
  ok := fun x y h => sysA (cx := x28) follow func28 (h28 x) (g28) y h
  flat := false
  hflat := nofun
inductive J37 where
| s0 (p_t1 : GPending) (t2 : GPending) (out_t3 : List GAct) (i_t4 : Int)
noncomputable def b37 : Code := f37.body.getD .skip
noncomputable def x37 : Cx J37 GPending where
  nt := 24
  rvs := [.cell 2 35]
  mh := []
  res := fun y => [.agg (((GPending.cs y).map R.c).set 18 (.own 47 32 (E.GAct.L y.Acts)))]
  outs := fun y => []
  path := fun
    | .s0 _ _ _ _ => [0, 1, 0, 1, 1]
  sig := fun
    | .s0 _ _ _ _ => [1, 2, 3, 4]
  snap := fun
    | .s0 p_t1 t2 out_t3 i_t4 => ⟨[(1, .one (.ptr 0 1 0)), (2, .one (.ptr 1 1 0)), (3, .one (.own 2 1)), (4, .one (.c (.int .i64 i_t4)))], [((0, 1), .box ((GPending.cs p_t1).map A.c)), ((1, 1), .box ((((((((((((GPending.cs t2).map A.c).set 10 .nil).set 11 .nil).set 15 .nil).set 16 .nil).set 18 .nil).set 19 .nil).set 20 .nil).set 21 .nil).set 22 .nil).set 23 .nil)), ((2, 1), .arr 47 32 (E.GAct.L out_t3))]⟩
noncomputable def a37 (p_0 : GPending) : Cert prog J37 GPending :=
 .adoptT 3 47 32 <|
 .jump (.s0 p_0 zP [] 0) [(1000, 1), (2000, 1), (3999, 1)]
noncomputable def c37 : J37 → Cert prog J37 GPending
| .s0 p_t1 t2 out_t3 i_t4 =>
 .len E.GAct p_t1.Acts <|
 .ite 9 (decide (i_t4 < (p_t1.Acts.length : Int)))
 (.elem E.GAct p_t1.Acts i_t4 fun a1 =>
 .call m82 a1 fun r2 =>
 .bld E.GAct [r2] <|
 .app E.GAct 376 out_t3 [r2] <|
 .jump (.s0 p_t1 (nP t2) (out_t3 ++ [r2]) (IntKind.i64.wrap (i_t4 + 1))) [(0, 1), (1, 1), (20000, 2)])
 (.ret (GPending.mk p_t1.Next p_t1.Status p_t1.Task p_t1.TaskID p_t1.Attempt p_t1.Seq p_t1.Name p_t1.Input p_t1.Attrs p_t1.Cancel out_t3 p_t1.Timers p_t1.Kids p_t1.Sends p_t1.Updates p_t1.Requests))
theorem h37 (p_0 : GPending) : tp prog x37 b37 (a37 p_0) (ES.init [.val (.agg ((GPending.cs p_0).map R.c))]) :=
  of_triv (rs := x37.rs) (snap := x37.snap) (c := a37 p_0) (by kernel_rfl)
theorem g37 : ∀ j, ck prog x37 b37 c37 j
| .s0 p_t1 t2 out_t3 i_t4 => of_triv (rs := x37.rs) (snap := x37.snap) (c := c37 (.s0 p_t1 t2 out_t3 i_t4)) (by kernel_rfl)
noncomputable def m37 : Mir prog 37 GPending GPending where
  fs := [.agg (List.replicate 24 none)]
  ga := fun x => [.val (.agg ((GPending.cs x).map R.c))]
  caps := fun x => []
  res := x37.res
  outs := x37.outs
  R := fun x y => Rn c37 (a37 x) y
  ok := fun x y h => sysA (cx := x37) follow func37 (h37 x) (g37) y h
  flat := false
  hflat := nofun
end Tryz
end Go.Proofs
end
section
set_option maxRecDepth 100000
set_option maxHeartbeats 2000000
namespace Go.Proofs
namespace Tryz
open Go Go.AV
inductive J6 where
| s0 (p_t9 : GPending) (q_t27 : GPending) (ok_t28 : Bool) (r_t29 : GPending) (is_t30 : Bool)
noncomputable def b6 : Code := f6.body.getD .skip
noncomputable def x6 : Cx J6 Bool where
  nt := 208
  rvs := [.tmp 8]
  mh := []
  res := fun y => [.one (.c (.bool y))]
  outs := fun y => []
  path := fun
    | .s0 _ _ _ _ _ => [1, 1, 1, 1, 1, 1, 1, 1, 1, 1, 1, 1, 1, 1, 1]
  sig := fun
    | .s0 _ _ _ _ _ => [9, 27, 28, 29, 30]
  snap := fun
    | .s0 p_t9 q_t27 ok_t28 r_t29 is_t30 => ⟨[(9, .one (.ptr 0 1 0)), (27, .one (.ptr 1 1 0)), (28, .one (.c (.bool ok_t28))), (29, .one (.ptr 2 1 0)), (30, .one (.c (.bool is_t30)))], [((0, 1), .box ((GPending.cs p_t9).map A.c)), ((1, 1), .box ((GPending.cs q_t27).map A.c)), ((2, 1), .box ((GPending.cs r_t29).map A.c))]⟩
noncomputable def a6 (l_0 : List GEvent) (seq_1 : Int) (id_2 : ByteArray) (a_3 : GAct) : Cert prog J6 Bool :=
 .call m14 l_0 fun r1 =>
 .ite 34 (!r1)
 (.call m15 () fun r2 =>
 .ret r2)
 (.call m25 (GEvent.mk 0 0 0 0 0 0 0 a_3.Name a_3.Failure a_3.Data a_3.Opts) fun r3 =>
 .ite 47 (!r3)
 (.call m15 () fun r4 =>
 .ret r4)
 (.call m25 (GEvent.mk 0 0 0 0 0 0 0 eB eB a_3.Details zO) fun r5 =>
 .ite 54 (!r5)
 (.call m15 () fun r6 =>
 .ret r6)
 (.ite 58 (decide (1000 < (id_2.size : Int)))
 (.call m15 () fun r7 =>
 .ret r7)
 (.call m28 l_0 fun r8 =>
 .ite 66 (r8.2 != 0)
 (.call m15 () fun r9 =>
 .ret r9)
 (.call m20 (r8.1, seq_1) fun r10 =>
 .call m29 (r8.1, seq_1) fun r11 =>
 .call m21 (r8.1, seq_1) fun r12 =>
 .call m30 (r8.1, seq_1) fun r13 =>
 .call m22 (r8.1, seq_1) fun r14 =>
 .call m31 (r8.1, seq_1) fun r15 =>
 .call m23 (r8.1, seq_1) fun r16 =>
 .call m32 (r8.1, seq_1) fun r17 =>
 .call m33 (r10.1, r11.1) fun r18 =>
 .ite 120 (!r18)
 (.ret false)
 (.ite 125 (r10.2 != r11.2)
 (.ret false)
 (.ite 130 (!((r12.1.Seq == r13.1.Seq) && ((r12.1.Event == r13.1.Event) && ((r12.1.Due == r13.1.Due) && true))))
 (.ret false)
 (.ite 135 (r12.2 != r13.2)
 (.ret false)
 (.ite 140 (!((r14.1.Seq == r15.1.Seq) && ((r14.1.Event == r15.1.Event) && ((strEq r14.1.Key r15.1.Key) && ((strEq r14.1.Name r15.1.Name) && ((r14.1.Policy == r15.1.Policy) && ((strEq r14.1.Run r15.1.Run) && true)))))))
 (.ret false)
 (.ite 145 (r14.2 != r15.2)
 (.ret false)
 (.ite 150 (!((r16.1.Seq == r17.1.Seq) && ((r16.1.Event == r17.1.Event) && ((strEq r16.1.Key r17.1.Key) && ((strEq r16.1.Name r17.1.Name) && true)))))
 (.ret false)
 (.ite 155 (r16.2 != r17.2)
 (.ret false)
 (.call m34 (r8.1, id_2) fun r19 =>
 .call m35 (r8.1, id_2) fun r20 =>
 .ite 163 (r19 != r20)
 (.ret false)
 (.call m26 (r8.1, a_3) fun r21 =>
 .call m36 (r8.1, a_3) fun r22 =>
 .frz 167010 1 <|
 .frz 167011 1 <|
 .frz 167015 1 <|
 .frz 167016 1 <|
 .frz 167018 1 <|
 .frz 167019 1 <|
 .frz 167020 1 <|
 .frz 167021 1 <|
 .frz 167022 1 <|
 .frz 167023 1 <|
 .frz 173018 1 <|
 .jump (.s0 r8.1 r21.1 r21.2 r22.1 r22.2) [(9000, 1), (27000, 1), (29000, 1)]))))))))))))))
noncomputable def c6 : J6 → Cert prog J6 Bool
| .s0 p_t9 q_t27 ok_t28 r_t29 is_t30 =>
 .ite 179 (ok_t28 == is_t30)
 (.call m18 (q_t27, r_t29) fun r23 =>
 .ite 184 r23
 (.call m24 q_t27 fun r24 =>
 .call m37 r_t29 fun r25 =>
 .call m18 (r24, r25) fun r26 =>
 .ite 191 r26
 (.call m38 (p_t9, r_t29) fun r27 =>
 .call m18 (p_t9, r_t29) fun r28 =>
 .ite 200 (r27 == r28)
 (.call m38 (q_t27, r_t29) fun r29 =>
 .ite 205 r29
 (.call m15 () fun r30 =>
 .ret r30)
 (.ret false))
 (.ret false))
 (.ret false))
 (.ret false))
 (.ret false)
theorem h6 (l_0 : List GEvent) (seq_1 : Int) (id_2 : ByteArray) (a_3 : GAct) : tp prog x6 b6 (a6 l_0 seq_1 id_2 a_3) (ES.init [.val (.one (.c (.sl (E.GEvent.L l_0)))), .val (.one (.c (.int .i64 seq_1))), .val (.one (.c (.str id_2))), .val (.agg ((GAct.cs a_3).map R.c))]) :=
  of_triv (rs := x6.rs) (snap := x6.snap) (c := a6 l_0 seq_1 id_2 a_3) (by kernel_rfl)
theorem g6 : ∀ j, ck prog x6 b6 c6 j
| .s0 p_t9 q_t27 ok_t28 r_t29 is_t30 => of_triv (rs := x6.rs) (snap := x6.snap) (c := c6 (.s0 p_t9 q_t27 ok_t28 r_t29 is_t30)) (by kernel_rfl)
noncomputable def m6 : Mir prog 6 ((List GEvent) × Int × ByteArray × GAct) Bool where
  fs := [.one none, .one none, .one none, .agg (List.replicate 32 none)]
  ga := fun x => [.val (.one (.c (.sl (E.GEvent.L x.1)))), .val (.one (.c (.int .i64 x.2.1))), .val (.one (.c (.str x.2.2.1))), .val (.agg ((GAct.cs x.2.2.2).map R.c))]
  caps := fun x => []
  res := x6.res
  outs := x6.outs
  R := fun x y => Rn c6 (a6 x.1 x.2.1 x.2.2.1 x.2.2.2) y
  ok := fun x y h => sysA (cx := x6) follow func6 (h6 x.1 x.2.1 x.2.2.1 x.2.2.2) (g6) y h
  flat := true
  hflat := fun _ _ => flatE rfl
end Tryz
end Go.Proofs
end
