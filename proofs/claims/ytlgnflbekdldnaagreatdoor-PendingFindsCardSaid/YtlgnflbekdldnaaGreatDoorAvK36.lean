/- Texts AvZC. -/
import Derived.Test.YtlgnflbekdldnaaGreatDoorAvK35
set_option linter.unusedVariables false
set_option linter.unusedSimpArgs false
set_option linter.unusedSectionVars false
section
set_option maxRecDepth 100000
set_option maxHeartbeats 2000000
namespace Go.Proofs
namespace Tryz
open Go Go.AV
noncomputable def b147 : Code := f147.body.getD .skip
noncomputable def x147 : Cx Empty Bool where
  nt := 15
  rvs := [.tmp 6]
  mh := []
  res := fun y => [.one (.c (.bool y))]
  outs := fun y => []
  path := nofun
  sig := nofun
  snap := nofun
noncomputable def a147 (n_0 : Int) (low_1 : Int) (high_2 : Int) : Cert prog Empty Bool :=
 .ite 10 (decide (low_1 ≤ n_0))
 (.ret (decide (n_0 ≤ high_2)))
 (.ret false)
noncomputable def c147 : Empty → Cert prog Empty Bool := nofun
theorem h147 (n_0 : Int) (low_1 : Int) (high_2 : Int) : tp prog x147 b147 (a147 n_0 low_1 high_2) (ES.init [.val (.one (.c (.int .i64 n_0))), .val (.one (.c (.int .i64 low_1))), .val (.one (.c (.int .i64 high_2)))]) :=
  of_triv (rs := x147.rs) (snap := x147.snap) (c := a147 n_0 low_1 high_2) (by kernel_rfl)
theorem g147 : ∀ j, ck prog x147 b147 c147 j := nofun
noncomputable def m147 : Mir prog 147 (Int × Int × Int) Bool where
  fs := [.one none, .one none, .one none]
  ga := fun x => [.val (.one (.c (.int .i64 x.1))), .val (.one (.c (.int .i64 x.2.1))), .val (.one (.c (.int .i64 x.2.2)))]
  caps := fun x => []
  res := x147.res
  outs := x147.outs
  R := fun x y => Rn c147 (a147 x.1 x.2.1 x.2.2) y
  ok := fun x y h => sysA (cx := x147) follow func147 (h147 x.1 x.2.1 x.2.2) (g147) y h
  flat := true
  hflat := fun _ _ => flatE rfl
noncomputable def b118 : Code := f118.body.getD .skip
noncomputable def x118 : Cx Empty Bool where
  nt := 15
  rvs := [.tmp 6]
  mh := []
  res := fun y => [.one (.c (.bool y))]
  outs := fun y => []
  path := nofun
  sig := nofun
  snap := nofun
noncomputable def a118 (n_0 : Int) (low_1 : Int) (high_2 : Int) : Cert prog Empty Bool :=
 .ite 10 (decide (low_1 ≤ n_0))
 (.ret (decide (n_0 ≤ high_2)))
 (.ret false)
noncomputable def c118 : Empty → Cert prog Empty Bool := nofun
theorem h118 (n_0 : Int) (low_1 : Int) (high_2 : Int) : tp prog x118 b118 (a118 n_0 low_1 high_2) (ES.init [.val (.one (.c (.int .i64 n_0))), .val (.one (.c (.int .i64 low_1))), .val (.one (.c (.int .i64 high_2)))]) :=
  of_triv (rs := x118.rs) (snap := x118.snap) (c := a118 n_0 low_1 high_2) (by kernel_rfl)
theorem g118 : ∀ j, ck prog x118 b118 c118 j := nofun
noncomputable def m118 : Mir prog 118 (Int × Int × Int) Bool where
  fs := [.one none, .one none, .one none]
  ga := fun x => [.val (.one (.c (.int .i64 x.1))), .val (.one (.c (.int .i64 x.2.1))), .val (.one (.c (.int .i64 x.2.2)))]
  caps := fun x => []
  res := x118.res
  outs := x118.outs
  R := fun x y => Rn c118 (a118 x.1 x.2.1 x.2.2) y
  ok := fun x y h => sysA (cx := x118) follow func118 (h118 x.1 x.2.1 x.2.2) (g118) y h
  flat := true
  hflat := fun _ _ => flatE rfl
noncomputable def b120 : Code := f120.body.getD .skip
noncomputable def x120 : Cx Empty Int where
  nt := 32
  rvs := [.tmp 2]
  mh := []
  res := fun y => [.one (.c (.int .i64 y))]
  outs := fun y => []
  path := nofun
  sig := nofun
  snap := nofun
noncomputable def a120 (kind_0 : Int) : Cert prog Empty Int :=
 .ite 4 (kind_0 == 7)
 (.ret 1)
 (.ite 6 (kind_0 == 12)
 (.ret 2)
 (.ite 8 (kind_0 == 14)
 (.ret 3)
 (.ite 10 (kind_0 == 16)
 (.ret 4)
 (.ite 12 (kind_0 == 19)
 (.ret 5)
 (.ite 14 (kind_0 == 23)
 (.ret 6)
 (.ite 16 (kind_0 == 18)
 (.ret 7)
 (.ite 18 (kind_0 == 27)
 (.ret 8)
 (.ite 20 (kind_0 == 28)
 (.ret 9)
 (.ite 22 (kind_0 == 29)
 (.ret 10)
 (.ite 24 (kind_0 == 30)
 (.ret 11)
 (.ite 26 (kind_0 == 31)
 (.ret 12)
 (.ite 28 (kind_0 == 32)
 (.ret 13)
 (.ite 30 (kind_0 == 35)
 (.ret 14)
 (.ret 0))))))))))))))
noncomputable def c120 : Empty → Cert prog Empty Int := nofun
theorem h120 (kind_0 : Int) : tp prog x120 b120 (a120 kind_0) (ES.init [.val (.one (.c (.int .i64 kind_0)))]) :=
  of_triv (rs := x120.rs) (snap := x120.snap) (c := a120 kind_0) (by kernel_rfl)
theorem g120 : ∀ j, ck prog x120 b120 c120 j := nofun
noncomputable def m120 : Mir prog 120 Int Int where
  fs := [.one none]
  ga := fun x => [.val (.one (.c (.int .i64 x)))]
  caps := fun x => []
  res := x120.res
  outs := x120.outs
  R := fun x y => Rn c120 (a120 x) y
  ok := fun x y h => sysA (cx := x120) follow func120 (h120 x) (g120) y h
  flat := true
  hflat := fun _ _ => flatE rfl
inductive J146 where
| s0 (t2 : GCUses) (t3 : Int) (t7 : Bool)
noncomputable def b146 : Code := f146.body.getD .skip
noncomputable def x146 : Cx J146 GCUses where
  nt := 33
  rvs := [.cell 2 154]
  mh := []
  res := fun y => [.agg ((GCUses.cs y).map R.c)]
  outs := fun y => []
  path := fun
    | .s0 _ _ _ => [1, 1, 1, 0, 1, 0, 1]
  sig := fun
    | .s0 _ _ _ => [2, 3, 7]
  snap := fun
    | .s0 t2 t3 t7 => ⟨[(2, .one (.ptr 0 1 0)), (3, .one (.c (.int .i64 t3))), (7, .one (.c (.bool t7)))], [((0, 1), .box ((GCUses.cs t2).map A.c))]⟩
noncomputable def a146 (kind_0 : Int) : Cert prog J146 GCUses :=
 .ite 4 (kind_0 == 1)
 (.ret (GCUses.mk true true false false true true))
 (.ite 7 (kind_0 == 2)
 (.jump (.s0 (GCUses.mk false false false false false false) kind_0 true) [(2000, 1)])
 (.jump (.s0 (GCUses.mk false false false false false false) kind_0 (kind_0 == 4)) [(2000, 1)]))
noncomputable def c146 : J146 → Cert prog J146 GCUses
| .s0 t2 t3 t7 =>
 .ite 7 t7
 (.ret (GCUses.mk true false false false false false))
 (.ite 11 (t3 == 3)
 (.ret (GCUses.mk true false false true false false))
 (.ite 14 (t3 == 5)
 (.ret (GCUses.mk true true true true true false))
 (.ite 17 (t3 == 6)
 (.ret (GCUses.mk true true true false true false))
 (.ite 20 (t3 == 7)
 (.ret (GCUses.mk false true false true true false))
 (.ite 23 (t3 == 8)
 (.ret (GCUses.mk false true true false true false))
 (.ite 26 (t3 == 9)
 (.ret (GCUses.mk false false true true true false))
 (.ite 29 (t3 == 12)
 (.ret (GCUses.mk false true false false true false))
 (.ret (GCUses.mk false false false false true false)))))))))
theorem h146 (kind_0 : Int) : tp prog x146 b146 (a146 kind_0) (ES.init [.val (.one (.c (.int .i64 kind_0)))]) :=
  of_triv (rs := x146.rs) (snap := x146.snap) (c := a146 kind_0) (by kernel_rfl)
theorem g146 : ∀ j, ck prog x146 b146 c146 j
| .s0 t2 t3 t7 => of_triv (rs := x146.rs) (snap := x146.snap) (c := c146 (.s0 t2 t3 t7)) (by kernel_rfl)
noncomputable def m146 : Mir prog 146 Int GCUses where
  fs := [.one none]
  ga := fun x => [.val (.one (.c (.int .i64 x)))]
  caps := fun x => []
  res := x146.res
  outs := x146.outs
  R := fun x y => Rn c146 (a146 x) y
  ok := fun x y h => sysA (cx := x146) follow func146 (h146 x) (g146) y h
  flat := false
  hflat := nofun
noncomputable def b148 : Code := f148.body.getD .skip
noncomputable def x148 : Cx Empty Bool where
  nt := 59
  rvs := [.tmp 4]
  mh := []
  res := fun y => [.one (.c (.bool y))]
  outs := fun y => []
  path := nofun
  sig := nofun
  snap := nofun
noncomputable def a148 (c_0 : GCommand) (u_1 : GCUses) : Cert prog Empty Bool :=
 .ite 7 u_1.seq
 (.ite 15 u_1.name
 (.ite 24 u_1.key
 (.ite 33 u_1.n
 (.ite 42 u_1.data
 (.ite 52 u_1.opts
 (.ret true)
 (.call m143 (c_0.Opts, zO) fun r1 =>
 .ret r1))
 (.call m83 (c_0.Data, zV) fun r2 =>
 .ite 49 r2
 (.ite 52 u_1.opts
 (.ret true)
 (.call m143 (c_0.Opts, zO) fun r3 =>
 .ret r3))
 (.ret false)))
 (.ite 39 (c_0.N == 0)
 (.ite 42 u_1.data
 (.ite 52 u_1.opts
 (.ret true)
 (.call m143 (c_0.Opts, zO) fun r4 =>
 .ret r4))
 (.call m83 (c_0.Data, zV) fun r5 =>
 .ite 49 r5
 (.ite 52 u_1.opts
 (.ret true)
 (.call m143 (c_0.Opts, zO) fun r6 =>
 .ret r6))
 (.ret false)))
 (.ret false)))
 (.ite 30 (strEq c_0.Key eB)
 (.ite 33 u_1.n
 (.ite 42 u_1.data
 (.ite 52 u_1.opts
 (.ret true)
 (.call m143 (c_0.Opts, zO) fun r7 =>
 .ret r7))
 (.call m83 (c_0.Data, zV) fun r8 =>
 .ite 49 r8
 (.ite 52 u_1.opts
 (.ret true)
 (.call m143 (c_0.Opts, zO) fun r9 =>
 .ret r9))
 (.ret false)))
 (.ite 39 (c_0.N == 0)
 (.ite 42 u_1.data
 (.ite 52 u_1.opts
 (.ret true)
 (.call m143 (c_0.Opts, zO) fun r10 =>
 .ret r10))
 (.call m83 (c_0.Data, zV) fun r11 =>
 .ite 49 r11
 (.ite 52 u_1.opts
 (.ret true)
 (.call m143 (c_0.Opts, zO) fun r12 =>
 .ret r12))
 (.ret false)))
 (.ret false)))
 (.ret false)))
 (.ite 21 (strEq c_0.Name eB)
 (.ite 24 u_1.key
 (.ite 33 u_1.n
 (.ite 42 u_1.data
 (.ite 52 u_1.opts
 (.ret true)
 (.call m143 (c_0.Opts, zO) fun r13 =>
 .ret r13))
 (.call m83 (c_0.Data, zV) fun r14 =>
 .ite 49 r14
 (.ite 52 u_1.opts
 (.ret true)
 (.call m143 (c_0.Opts, zO) fun r15 =>
 .ret r15))
 (.ret false)))
 (.ite 39 (c_0.N == 0)
 (.ite 42 u_1.data
 (.ite 52 u_1.opts
 (.ret true)
 (.call m143 (c_0.Opts, zO) fun r16 =>
 .ret r16))
 (.call m83 (c_0.Data, zV) fun r17 =>
 .ite 49 r17
 (.ite 52 u_1.opts
 (.ret true)
 (.call m143 (c_0.Opts, zO) fun r18 =>
 .ret r18))
 (.ret false)))
 (.ret false)))
 (.ite 30 (strEq c_0.Key eB)
 (.ite 33 u_1.n
 (.ite 42 u_1.data
 (.ite 52 u_1.opts
 (.ret true)
 (.call m143 (c_0.Opts, zO) fun r19 =>
 .ret r19))
 (.call m83 (c_0.Data, zV) fun r20 =>
 .ite 49 r20
 (.ite 52 u_1.opts
 (.ret true)
 (.call m143 (c_0.Opts, zO) fun r21 =>
 .ret r21))
 (.ret false)))
 (.ite 39 (c_0.N == 0)
 (.ite 42 u_1.data
 (.ite 52 u_1.opts
 (.ret true)
 (.call m143 (c_0.Opts, zO) fun r22 =>
 .ret r22))
 (.call m83 (c_0.Data, zV) fun r23 =>
 .ite 49 r23
 (.ite 52 u_1.opts
 (.ret true)
 (.call m143 (c_0.Opts, zO) fun r24 =>
 .ret r24))
 (.ret false)))
 (.ret false)))
 (.ret false)))
 (.ret false)))
 (.ite 12 (c_0.Seq == 0)
 (.ite 15 u_1.name
 (.ite 24 u_1.key
 (.ite 33 u_1.n
 (.ite 42 u_1.data
 (.ite 52 u_1.opts
 (.ret true)
 (.call m143 (c_0.Opts, zO) fun r25 =>
 .ret r25))
 (.call m83 (c_0.Data, zV) fun r26 =>
 .ite 49 r26
 (.ite 52 u_1.opts
 (.ret true)
 (.call m143 (c_0.Opts, zO) fun r27 =>
 .ret r27))
 (.ret false)))
 (.ite 39 (c_0.N == 0)
 (.ite 42 u_1.data
 (.ite 52 u_1.opts
 (.ret true)
 (.call m143 (c_0.Opts, zO) fun r28 =>
 .ret r28))
 (.call m83 (c_0.Data, zV) fun r29 =>
 .ite 49 r29
 (.ite 52 u_1.opts
 (.ret true)
 (.call m143 (c_0.Opts, zO) fun r30 =>
 .ret r30))
 (.ret false)))
 (.ret false)))
 (.ite 30 (strEq c_0.Key eB)
 (.ite 33 u_1.n
 (.ite 42 u_1.data
 (.ite 52 u_1.opts
 (.ret true)
 (.call m143 (c_0.Opts, zO) fun r31 =>
 .ret r31))
 (.call m83 (c_0.Data, zV) fun r32 =>
 .ite 49 r32
 (.ite 52 u_1.opts
 (.ret true)
 (.call m143 (c_0.Opts, zO) fun r33 =>
 .ret r33))
 (.ret false)))
 (.ite 39 (c_0.N == 0)
 (.ite 42 u_1.data
 (.ite 52 u_1.opts
 (.ret true)
 (.call m143 (c_0.Opts, zO) fun r34 =>
 .ret r34))
 (.call m83 (c_0.Data, zV) fun r35 =>
 .ite 49 r35
 (.ite 52 u_1.opts
 (.ret true)
 (.call m143 (c_0.Opts, zO) fun r36 =>
 .ret r36))
 (.ret false)))
 (.ret false)))
 (.ret false)))
 (.ite 21 (strEq c_0.Name eB)
 (.ite 24 u_1.key
 (.ite 33 u_1.n
 (.ite 42 u_1.data
 (.ite 52 u_1.opts
 (.ret true)
 (.call m143 (c_0.Opts, zO) fun r37 =>
 .ret r37))
 (.call m83 (c_0.Data, zV) fun r38 =>
 .ite 49 r38
 (.ite 52 u_1.opts
 (.ret true)
 (.call m143 (c_0.Opts, zO) fun r39 =>
 .ret r39))
 (.ret false)))
 (.ite 39 (c_0.N == 0)
 (.ite 42 u_1.data
 (.ite 52 u_1.opts
 (.ret true)
 (.call m143 (c_0.Opts, zO) fun r40 =>
 .ret r40))
 (.call m83 (c_0.Data, zV) fun r41 =>
 .ite 49 r41
 (.ite 52 u_1.opts
 (.ret true)
 (.call m143 (c_0.Opts, zO) fun r42 =>
 .ret r42))
 (.ret false)))
 (.ret false)))
 (.ite 30 (strEq c_0.Key eB)
 (.ite 33 u_1.n
 (.ite 42 u_1.data
 (.ite 52 u_1.opts
 (.ret true)
 (.call m143 (c_0.Opts, zO) fun r43 =>
 .ret r43))
 (.call m83 (c_0.Data, zV) fun r44 =>
 .ite 49 r44
 (.ite 52 u_1.opts
 (.ret true)
 (.call m143 (c_0.Opts, zO) fun r45 =>
 .ret r45))
 (.ret false)))
 (.ite 39 (c_0.N == 0)
 (.ite 42 u_1.data
 (.ite 52 u_1.opts
 (.ret true)
 (.call m143 (c_0.Opts, zO) fun r46 =>
 .ret r46))
 (.call m83 (c_0.Data, zV) fun r47 =>
 .ite 49 r47
 (.ite 52 u_1.opts
 (.ret true)
 (.call m143 (c_0.Opts, zO) fun r48 =>
 .ret r48))
 (.ret false)))
 (.ret false)))
 (.ret false)))
 (.ret false)))
 (.ret false))
noncomputable def c148 : Empty → Cert prog Empty Bool := nofun
theorem h148 (c_0 : GCommand) (u_1 : GCUses) : tp prog x148 b148 (a148 c_0 u_1) (ES.init [.val (.agg ((GCommand.cs c_0).map R.c)), .val (.agg ((GCUses.cs u_1).map R.c))]) :=
  of_triv (rs := x148.rs) (snap := x148.snap) (c := a148 c_0 u_1) (by kernel_rfl)
theorem g148 : ∀ j, ck prog x148 b148 c148 j := nofun
noncomputable def m148 : Mir prog 148 (GCommand × GCUses) Bool where
  fs := [.agg (List.replicate 20 none), .agg (List.replicate 6 none)]
  ga := fun x => [.val (.agg ((GCommand.cs x.1).map R.c)), .val (.agg ((GCUses.cs x.2).map R.c))]
  caps := fun x => []
  res := x148.res
  outs := x148.outs
  R := fun x y => Rn c148 (a148 x.1 x.2) y
  ok := fun x y h => sysA (cx := x148) follow func148 (h148 x.1 x.2) (g148) y h
  flat := true
  hflat := fun _ _ => flatE rfl
noncomputable def b201 : Code := f201.body.getD .skip
noncomputable def x201 : Cx Empty Bool where
  nt := 6
  rvs := [.tmp 2]
  mh := []
  res := fun y => [.one (.c (.bool y))]
  outs := fun y => []
  path := nofun
  sig := nofun
  snap := nofun
noncomputable def a201 (s_0 : ByteArray) : Cert prog Empty Bool :=
 .ret (decide (4096 < (s_0.size : Int)))
noncomputable def c201 : Empty → Cert prog Empty Bool := nofun
theorem h201 (s_0 : ByteArray) : tp prog x201 b201 (a201 s_0) (ES.init [.val (.one (.c (.str s_0)))]) :=
  of_triv (rs := x201.rs) (snap := x201.snap) (c := a201 s_0) (by kernel_rfl)
theorem g201 : ∀ j, ck prog x201 b201 c201 j := nofun
noncomputable def m201 : Mir prog 201 ByteArray Bool where
  fs := [.one none]
  ga := fun x => [.val (.one (.c (.str x)))]
  caps := fun x => []
  res := x201.res
  outs := x201.outs
  R := fun x y => Rn c201 (a201 x) y
  ok := fun x y h => sysA (cx := x201) follow func201 (h201 x) (g201) y h
  flat := true
  hflat := fun _ _ => flatE rfl
inductive J149 where
| s0 (o_t1 : GPolicy)
| s1 (o_t1 : GPolicy) (t32 : List Int) (t33 : Int) (t34 : Int)
noncomputable def b149 : Code := f149.body.getD .skip
noncomputable def x149 : Cx J149 Bool where
  nt := 56
  rvs := [.tmp 2]
  mh := []
  res := fun y => [.one (.c (.bool y))]
  outs := fun y => []
  path := fun
    | .s0 _ => [1, 1]
    | .s1 _ _ _ _ => [0, 1, 0, 1, 1]
  sig := fun
    | .s0 _ => [1]
    | .s1 _ _ _ _ => [1, 32, 33, 34]
  snap := fun
    | .s0 o_t1 => ⟨[(1, .one (.ptr 0 1 0))], [((0, 1), .box ((GPolicy.cs o_t1).map A.c))]⟩
    | .s1 o_t1 t32 t33 t34 => ⟨[(1, .one (.ptr 0 1 0)), (32, .one (.own 1 1)), (33, .one (.c (.int .i64 t33))), (34, .one (.c (.int .i64 t34)))], [((0, 1), .box ((GPolicy.cs o_t1).map A.c)), ((1, 1), .arr 3 1 (E.i64.L t32))]⟩
noncomputable def a149 (o_0 : GPolicy) : Cert prog J149 Bool :=
 .ite 8 (!strEq o_0.Queue eB)
 (.call m151 o_0.Queue fun r1 =>
 .ite 14 (!r1)
 (.ret false)
 (.len E.str o_0.Fatal <|
 .ite 19 (decide (64 < (o_0.Fatal.length : Int)))
 (.ret false)
 (.jump (.s0 o_0) [(1000, 1)])))
 (.len E.str o_0.Fatal <|
 .ite 19 (decide (64 < (o_0.Fatal.length : Int)))
 (.ret false)
 (.jump (.s0 o_0) [(1000, 1)]))
noncomputable def c149 : J149 → Cert prog J149 Bool
| .s0 o_t1 =>
 .bld E.i64 [o_t1.ToStart, o_t1.ToClose, o_t1.Total, o_t1.Beat, o_t1.First, o_t1.Most] <|
 .len E.i64 [o_t1.ToStart, o_t1.ToClose, o_t1.Total, o_t1.Beat, o_t1.First, o_t1.Most] <|
 .jump (.s1 o_t1 [o_t1.ToStart, o_t1.ToClose, o_t1.Total, o_t1.Beat, o_t1.First, o_t1.Most] ([o_t1.ToStart, o_t1.ToClose, o_t1.Total, o_t1.Beat, o_t1.First, o_t1.Most].length : Int) 0) [(0, 1), (32000, 2)]
| .s1 o_t1 t32 t33 t34 =>
 .ite 35 (decide (t34 < t33))
 (.idx E.i64 t32 t34 <|
 .eget E.i64 t32 t34.toNat fun a2 =>
 .call m147 (a2, 0, 1099511627776) fun r3 =>
 .ite 40 (!r3)
 (.ret false)
 (.jump (.s1 o_t1 t32 t33 (IntKind.i64.wrap (t34 + 1))) [(0, 1), (1, 1)]))
 (.call m147 (o_t1.Coef, 0, 10000) fun r4 =>
 .ite 45 r4
 (.call m147 (o_t1.Attempts, 0, 1000) fun r5 =>
 .ite 50 r5
 (.call m200 (o_t1.Fatal, (⟨201, [], fun a b => m201.R a b, fun a b h => m201.ok a b h⟩ : Clo158)) fun r6 =>
 .ret (!r6))
 (.ret false))
 (.ret false))
theorem h149 (o_0 : GPolicy) : tp prog x149 b149 (a149 o_0) (ES.init [.val (.agg ((GPolicy.cs o_0).map R.c))]) :=
  of_triv (rs := x149.rs) (snap := x149.snap) (c := a149 o_0) (by kernel_rfl)
theorem g149 : ∀ j, ck prog x149 b149 c149 j
| .s0 o_t1 => of_triv (rs := x149.rs) (snap := x149.snap) (c := c149 (.s0 o_t1)) (by kernel_rfl)
| .s1 o_t1 t32 t33 t34 => of_triv (rs := x149.rs) (snap := x149.snap) (c := c149 (.s1 o_t1 t32 t33 t34)) (by kernel_rfl)
noncomputable def m149 : Mir prog 149 GPolicy Bool where
  fs := [.agg (List.replicate 10 none)]
  ga := fun x => [.val (.agg ((GPolicy.cs x).map R.c))]
  caps := fun x => []
  res := x149.res
  outs := x149.outs
  R := fun x y => Rn c149 (a149 x) y
  ok := fun x y h => sysA (cx := x149) follow func149 (h149 x) (g149) y h
  flat := true
  hflat := fun _ _ => flatE rfl
inductive J150 where
| s0 (s_t0 : ByteArray) (t5 : Int) (t6 : Int)
noncomputable def b150 : Code := f150.body.getD .skip
noncomputable def x150 : Cx J150 Bool where
  nt := 35
  rvs := [.tmp 2]
  mh := []
  res := fun y => [.one (.c (.bool y))]
  outs := fun y => []
  path := fun
    | .s0 _ _ _ => [0, 1, 0, 1]
  sig := fun
    | .s0 _ _ _ => [0, 5, 6]
  snap := fun
    | .s0 s_t0 t5 t6 => ⟨[(0, .one (.c (.str s_t0))), (5, .one (.c (.int .i64 t5))), (6, .one (.c (.int .i64 t6)))], []⟩
noncomputable def a150 (s_0 : ByteArray) : Cert prog J150 Bool :=
 .jump (.s0 s_0 (s_0.size : Int) 0) []
noncomputable def c150 : J150 → Cert prog J150 Bool
| .s0 s_t0 t5 t6 =>
 .ite 7 (decide (t6 < t5))
 (.byte s_t0 t6 <|
 .ite 13 (decide ((byteAt s_t0 t6.toNat) < 33))
 (.ret false)
 (.byte s_t0 t6 <|
 .ite 19 (decide (126 < (byteAt s_t0 t6.toNat)))
 (.ret false)
 (.byte s_t0 t6 <|
 .ite 25 ((byteAt s_t0 t6.toNat) == 47)
 (.ret false)
 (.byte s_t0 t6 <|
 .ite 30 ((byteAt s_t0 t6.toNat) == 34)
 (.ret false)
 (.jump (.s0 s_t0 t5 (IntKind.i64.wrap (t6 + 1))) [])))))
 (.call m147 ((s_t0.size : Int), 1, 64) fun r1 =>
 .ret r1)
theorem h150 (s_0 : ByteArray) : tp prog x150 b150 (a150 s_0) (ES.init [.val (.one (.c (.str s_0)))]) :=
  of_triv (rs := x150.rs) (snap := x150.snap) (c := a150 s_0) (by kernel_rfl)
theorem g150 : ∀ j, ck prog x150 b150 c150 j
| .s0 s_t0 t5 t6 => of_triv (rs := x150.rs) (snap := x150.snap) (c := c150 (.s0 s_t0 t5 t6)) (by kernel_rfl)
noncomputable def m150 : Mir prog 150 ByteArray Bool where
  fs := [.one none]
  ga := fun x => [.val (.one (.c (.str x)))]
  caps := fun x => []
  res := x150.res
  outs := x150.outs
  R := fun x y => Rn c150 (a150 x) y
  ok := fun x y h => sysA (cx := x150) follow func150 (h150 x) (g150) y h
  flat := true
  hflat := fun _ _ => flatE rfl
noncomputable def b232 : Code := f232.body.getD .skip
noncomputable def x232 : Cx Empty Bool where
  nt := 29
  rvs := [.tmp 2]
  mh := []
  res := fun y => [.one (.c (.bool y))]
  outs := fun y => []
  path := nofun
  sig := nofun
  snap := nofun
noncomputable def a232 (x_0 : GVal) : Cert prog Empty Bool :=
 .ite 6 (x_0.Kind != 4)
 (.ret true)
 (.len E.GVal x_0.Items <|
 .ite 12 ((x_0.Items.length : Int) != 2)
 (.ret true)
 (.elem E.GVal x_0.Items 0 fun a1 =>
 .ite 20 (a1.Kind != 3)
 (.ret true)
 (.elem E.GVal x_0.Items 0 fun a2 =>
 .call m151 a2.Text fun r3 =>
 .ret (!r3))))
noncomputable def c232 : Empty → Cert prog Empty Bool := nofun
theorem h232 (x_0 : GVal) : tp prog x232 b232 (a232 x_0) (ES.init [.val (.agg ((GVal.cs x_0).map R.c))]) :=
  of_triv (rs := x232.rs) (snap := x232.snap) (c := a232 x_0) (by kernel_rfl)
theorem g232 : ∀ j, ck prog x232 b232 c232 j := nofun
noncomputable def m232 : Mir prog 232 GVal Bool where
  fs := [.agg (List.replicate 5 none)]
  ga := fun x => [.val (.agg ((GVal.cs x).map R.c))]
  caps := fun x => []
  res := x232.res
  outs := x232.outs
  R := fun x y => Rn c232 (a232 x) y
  ok := fun x y h => sysA (cx := x232) follow func232 (h232 x) (g232) y h
  flat := true
  hflat := fun _ _ => flatE rfl
noncomputable def b203 : Code := f203.body.getD .skip
noncomputable def x203 : Cx Empty Bool where
  nt := 27
  rvs := [.tmp 2]
  mh := []
  res := fun y => [.one (.c (.bool y))]
  outs := fun y => []
  path := nofun
  sig := nofun
  snap := nofun
noncomputable def a203 (v_0 : GVal) : Cert prog Empty Bool :=
 .ite 6 (v_0.Kind != 4)
 (.ret false)
 (.len E.GVal v_0.Items <|
 .ite 12 ((v_0.Items.length : Int) != 2)
 (.ret false)
 (.elem E.GVal v_0.Items 1 fun a1 =>
 .ite 19 (a1.Kind != 4)
 (.ret false)
 (.elem E.GVal v_0.Items 1 fun a2 =>
 .call m220 (a2.Items, (⟨232, [], fun a b => m232.R a b, fun a b h => m232.ok a b h⟩ : Clo134)) fun r3 =>
 .ret (!r3))))
noncomputable def c203 : Empty → Cert prog Empty Bool := nofun
theorem h203 (v_0 : GVal) : tp prog x203 b203 (a203 v_0) (ES.init [.val (.agg ((GVal.cs v_0).map R.c))]) :=
  of_triv (rs := x203.rs) (snap := x203.snap) (c := a203 v_0) (by kernel_rfl)
theorem g203 : ∀ j, ck prog x203 b203 c203 j := nofun
noncomputable def m203 : Mir prog 203 GVal Bool where
  fs := [.agg (List.replicate 5 none)]
  ga := fun x => [.val (.agg ((GVal.cs x).map R.c))]
  caps := fun x => []
  res := x203.res
  outs := x203.outs
  R := fun x y => Rn c203 (a203 x) y
  ok := fun x y h => sysA (cx := x203) follow func203 (h203 x) (g203) y h
  flat := true
  hflat := fun _ _ => flatE rfl
noncomputable def b152 : Code := f152.body.getD .skip
noncomputable def x152 : Cx Empty Bool where
  nt := 47
  rvs := [.tmp 2]
  mh := []
  res := fun y => [.one (.c (.bool y))]
  outs := fun y => []
  path := nofun
  sig := nofun
  snap := nofun
noncomputable def a152 (c_0 : GCommand) : Cert prog Empty Bool :=
 .ite 5 (c_0.Kind == 3)
 (.call m147 (c_0.N, 1, 1099511627776) fun r1 =>
 .ret r1)
 (.ite 10 (c_0.Kind == 5)
 (.call m147 (c_0.N, 0, 2) fun r2 =>
 .ret r2)
 (.ite 15 (c_0.Kind == 9)
 (.call m147 (c_0.N, 0, 1) fun r3 =>
 .ret r3)
 (.ite 20 (c_0.Kind == 7)
 (.ite 25 (c_0.N == (-1))
 (.ret true)
 (.call m147 (c_0.N, 0, 2147483647) fun r4 =>
 .ite 29 r4
 (.ret (c_0.Data.Kind == 0))
 (.ret false)))
 (.ite 36 (c_0.Kind == 10)
 (.ret (c_0.Data.Kind == 5))
 (.ite 42 (c_0.Kind == 14)
 (.call m203 c_0.Data fun r5 =>
 .ret r5)
 (.ret true))))))
noncomputable def c152 : Empty → Cert prog Empty Bool := nofun
theorem h152 (c_0 : GCommand) : tp prog x152 b152 (a152 c_0) (ES.init [.val (.agg ((GCommand.cs c_0).map R.c))]) :=
  of_triv (rs := x152.rs) (snap := x152.snap) (c := a152 c_0) (by kernel_rfl)
theorem g152 : ∀ j, ck prog x152 b152 c152 j := nofun
noncomputable def m152 : Mir prog 152 GCommand Bool where
  fs := [.agg (List.replicate 20 none)]
  ga := fun x => [.val (.agg ((GCommand.cs x).map R.c))]
  caps := fun x => []
  res := x152.res
  outs := x152.outs
  R := fun x y => Rn c152 (a152 x) y
  ok := fun x y h => sysA (cx := x152) follow func152 (h152 x) (g152) y h
  flat := true
  hflat := fun _ _ => flatE rfl
inductive J100 where
| s0 (c_t1 : GCommand) (u_t3 : GCUses)
noncomputable def b100 : Code := f100.body.getD .skip
noncomputable def x100 : Cx J100 Bool where
  nt := 73
  rvs := [.tmp 2]
  mh := []
  res := fun y => [.one (.c (.bool y))]
  outs := fun y => []
  path := fun
    | .s0 _ _ => [1, 1, 1, 1]
  sig := fun
    | .s0 _ _ => [1, 3]
  snap := fun
    | .s0 c_t1 u_t3 => ⟨[(1, .one (.ptr 0 1 0)), (3, .one (.ptr 1 1 0))], [((0, 1), .box ((GCommand.cs c_t1).map A.c)), ((1, 1), .box ((GCUses.cs u_t3).map A.c))]⟩
noncomputable def a100 (c_0 : GCommand) : Cert prog J100 Bool :=
 .call m146 c_0.Kind fun r1 =>
 .call m147 (c_0.Kind, 1, 14) fun r2 =>
 .ite 11 (!r2)
 (.ret false)
 (.call m148 (c_0, r1) fun r3 =>
 .ite 17 (!r3)
 (.ret false)
 (.call m119 c_0.Data fun r4 =>
 .ite 23 (!r4)
 (.ret false)
 (.call m149 c_0.Opts fun r5 =>
 .ite 28 (!r5)
 (.ret false)
 (.ite 31 r1.seq
 (.call m147 (c_0.Seq, 1, 2000) fun r6 =>
 .ite 37 (!r6)
 (.ret false)
 (.ite 40 r1.key
 (.call m150 c_0.Key fun r7 =>
 .ite 46 (!r7)
 (.ret false)
 (.jump (.s0 c_0 r1) [(1000, 1), (3000, 1)]))
 (.jump (.s0 c_0 r1) [(1000, 1), (3000, 1)])))
 (.ite 40 r1.key
 (.call m150 c_0.Key fun r8 =>
 .ite 46 (!r8)
 (.ret false)
 (.jump (.s0 c_0 r1) [(1000, 1), (3000, 1)]))
 (.jump (.s0 c_0 r1) [(1000, 1), (3000, 1)]))))))
noncomputable def c100 : J100 → Cert prog J100 Bool
| .s0 c_t1 u_t3 =>
 .ite 49 u_t3.name
 (.ite 53 (c_t1.Kind == 12)
 (.ite 59 (decide (4096 < (c_t1.Name.size : Int)))
 (.ret false)
 (.ite 63 (c_t1.Kind != 12)
 (.call m151 c_t1.Name fun r9 =>
 .ite 70 (!r9)
 (.ret false)
 (.call m152 c_t1 fun r10 =>
 .ret r10))
 (.call m152 c_t1 fun r11 =>
 .ret r11)))
 (.ite 63 (c_t1.Kind != 12)
 (.call m151 c_t1.Name fun r12 =>
 .ite 70 (!r12)
 (.ret false)
 (.call m152 c_t1 fun r13 =>
 .ret r13))
 (.call m152 c_t1 fun r14 =>
 .ret r14)))
 (.call m152 c_t1 fun r15 =>
 .ret r15)
theorem h100 (c_0 : GCommand) : tp prog x100 b100 (a100 c_0) (ES.init [.val (.agg ((GCommand.cs c_0).map R.c))]) :=
  of_triv (rs := x100.rs) (snap := x100.snap) (c := a100 c_0) (by kernel_rfl)
theorem g100 : ∀ j, ck prog x100 b100 c100 j
| .s0 c_t1 u_t3 => of_triv (rs := x100.rs) (snap := x100.snap) (c := c100 (.s0 c_t1 u_t3)) (by kernel_rfl)
noncomputable def m100 : Mir prog 100 GCommand Bool where
  fs := [.agg (List.replicate 20 none)]
  ga := fun x => [.val (.agg ((GCommand.cs x).map R.c))]
  caps := fun x => []
  res := x100.res
  outs := x100.outs
  R := fun x y => Rn c100 (a100 x) y
  ok := fun x y h => sysA (cx := x100) follow func100 (h100 x) (g100) y h
  flat := true
  hflat := fun _ _ => flatE rfl
inductive J121 where
| s0 (e_t2 : GEvent) (c_t5 : GCommand) (refers_t6 : Bool)
noncomputable def b121 : Code := f121.body.getD .skip
noncomputable def x121 : Cx J121 Bool where
  nt := 51
  rvs := [.tmp 4]
  mh := []
  res := fun y => [.one (.c (.bool y))]
  outs := fun y => []
  path := fun
    | .s0 _ _ _ => [1, 1, 1]
  sig := fun
    | .s0 _ _ _ => [2, 5, 6]
  snap := fun
    | .s0 e_t2 c_t5 refers_t6 => ⟨[(2, .one (.ptr 0 1 0)), (5, .one (.ptr 1 1 0)), (6, .one (.c (.bool refers_t6)))], [((0, 1), .box ((GEvent.cs e_t2).map A.c)), ((1, 1), .box ((GCommand.cs c_t5).map A.c))]⟩
noncomputable def a121 (e_0 : GEvent) (kind_1 : Int) : Cert prog J121 Bool :=
 .ite 23 (kind_1 == 2)
 (.jump (.s0 e_0 (GCommand.mk kind_1 e_0.Seq e_0.Name e_0.Key e_0.N e_0.Data e_0.Opts) true) [(2000, 1), (5000, 1)])
 (.jump (.s0 e_0 (GCommand.mk kind_1 e_0.Seq e_0.Name e_0.Key e_0.N e_0.Data e_0.Opts) (kind_1 == 4)) [(2000, 1), (5000, 1)])
noncomputable def c121 : J121 → Cert prog J121 Bool
| .s0 e_t2 c_t5 refers_t6 =>
 .ite 30 (e_t2.Code == 0)
 (.ite 32 refers_t6
 (.call m118 (e_t2.Ref, 1, 2000) fun r1 =>
 .ite 37 r1
 (.call m100 c_t5 fun r2 =>
 .ret r2)
 (.ite 40 (!refers_t6)
 (.ite 47 (e_t2.Ref == 0)
 (.call m100 c_t5 fun r3 =>
 .ret r3)
 (.ret false))
 (.ret false)))
 (.ite 40 (!refers_t6)
 (.ite 47 (e_t2.Ref == 0)
 (.call m100 c_t5 fun r4 =>
 .ret r4)
 (.ret false))
 (.ret false)))
 (.ret false)
theorem h121 (e_0 : GEvent) (kind_1 : Int) : tp prog x121 b121 (a121 e_0 kind_1) (ES.init [.val (.agg ((GEvent.cs e_0).map R.c)), .val (.one (.c (.int .i64 kind_1)))]) :=
  of_triv (rs := x121.rs) (snap := x121.snap) (c := a121 e_0 kind_1) (by kernel_rfl)
theorem g121 : ∀ j, ck prog x121 b121 c121 j
| .s0 e_t2 c_t5 refers_t6 => of_triv (rs := x121.rs) (snap := x121.snap) (c := c121 (.s0 e_t2 c_t5 refers_t6)) (by kernel_rfl)
noncomputable def m121 : Mir prog 121 (GEvent × Int) Bool where
  fs := [.agg (List.replicate 24 none), .one none]
  ga := fun x => [.val (.agg ((GEvent.cs x.1).map R.c)), .val (.one (.c (.int .i64 x.2)))]
  caps := fun x => []
  res := x121.res
  outs := x121.outs
  R := fun x y => Rn c121 (a121 x.1 x.2) y
  ok := fun x y h => sysA (cx := x121) follow func121 (h121 x.1 x.2) (g121) y h
  flat := true
  hflat := fun _ _ => flatE rfl
inductive J122 where
| s0 (t2 : GEUses) (t3 : Int) (t10 : Bool)
| s1 (t2 : GEUses) (t3 : Int) (t21 : Bool)
| s2 (t2 : GEUses) (t3 : Int) (t26 : Bool)
| s3 (t2 : GEUses) (t3 : Int) (t33 : Bool)
noncomputable def b122 : Code := f122.body.getD .skip
noncomputable def x122 : Cx J122 GEUses where
  nt := 53
  rvs := [.cell 2 137]
  mh := []
  res := fun y => [.agg ((GEUses.cs y).map R.c)]
  outs := fun y => []
  path := fun
    | .s0 _ _ _ => [1, 1, 1, 1, 1, 0, 1, 0, 1]
    | .s1 _ _ _ => [1, 1, 1, 1, 1, 1, 1, 1, 1, 1, 1, 0, 1, 0, 1]
    | .s2 _ _ _ => [1, 1, 1, 1, 1, 1, 1, 1, 1, 1, 1, 1, 1, 0, 1, 0, 1]
    | .s3 _ _ _ => [1, 1, 1, 1, 1, 1, 1, 1, 1, 1, 1, 1, 1, 1, 1, 1, 1, 0, 1, 0, 1]
  sig := fun
    | .s0 _ _ _ => [2, 3, 10]
    | .s1 _ _ _ => [2, 3, 21]
    | .s2 _ _ _ => [2, 3, 26]
    | .s3 _ _ _ => [2, 3, 33]
  snap := fun
    | .s0 t2 t3 t10 => ⟨[(2, .one (.ptr 0 1 0)), (3, .one (.c (.int .i64 t3))), (10, .one (.c (.bool t10)))], [((0, 1), .box ((GEUses.cs t2).map A.c))]⟩
    | .s1 t2 t3 t21 => ⟨[(2, .one (.ptr 0 1 0)), (3, .one (.c (.int .i64 t3))), (21, .one (.c (.bool t21)))], [((0, 1), .box ((GEUses.cs t2).map A.c))]⟩
    | .s2 t2 t3 t26 => ⟨[(2, .one (.ptr 0 1 0)), (3, .one (.c (.int .i64 t3))), (26, .one (.c (.bool t26)))], [((0, 1), .box ((GEUses.cs t2).map A.c))]⟩
    | .s3 t2 t3 t33 => ⟨[(2, .one (.ptr 0 1 0)), (3, .one (.c (.int .i64 t3))), (33, .one (.c (.bool t33)))], [((0, 1), .box ((GEUses.cs t2).map A.c))]⟩
noncomputable def a122 (kind_0 : Int) : Cert prog J122 GEUses :=
 .ite 4 (kind_0 == 1)
 (.ret (GEUses.mk false false true false true true true))
 (.ite 7 (kind_0 == 2)
 (.ret (GEUses.mk false false true false false false false))
 (.ite 10 (kind_0 == 3)
 (.jump (.s0 (GEUses.mk false false false false false false false) kind_0 true) [(2000, 1)])
 (.ite 10 (kind_0 == 4)
 (.jump (.s0 (GEUses.mk false false false false false false false) kind_0 true) [(2000, 1)])
 (.jump (.s0 (GEUses.mk false false false false false false false) kind_0 (kind_0 == 6)) [(2000, 1)]))))
noncomputable def c122 : J122 → Cert prog J122 GEUses
| .s0 t2 t3 t10 =>
 .ite 10 t10
 (.ret (GEUses.mk false true false false false false false))
 (.ite 15 (t3 == 5)
 (.ret (GEUses.mk false true false true false false false))
 (.ite 18 (t3 == 8)
 (.ret (GEUses.mk true true true false false false false))
 (.ite 21 (t3 == 9)
 (.jump (.s1 t2 t3 true) [(0, 1)])
 (.ite 21 (t3 == 13)
 (.jump (.s1 t2 t3 true) [(0, 1)])
 (.jump (.s1 t2 t3 (t3 == 21)) [(0, 1)])))))
| .s1 t2 t3 t21 =>
 .ite 21 t21
 (.ret (GEUses.mk true true false false false false true))
 (.ite 26 (t3 == 10)
 (.jump (.s2 t2 t3 true) [(0, 1)])
 (.jump (.s2 t2 t3 (t3 == 22)) [(0, 1)]))
| .s2 t2 t3 t26 =>
 .ite 26 t26
 (.ret (GEUses.mk true true false false true false true))
 (.ite 30 (t3 == 11)
 (.ret (GEUses.mk true true false true false false false))
 (.ite 33 (t3 == 15)
 (.jump (.s3 t2 t3 true) [(0, 1)])
 (.jump (.s3 t2 t3 (t3 == 24)) [(0, 1)])))
| .s3 t2 t3 t33 =>
 .ite 33 t33
 (.ret (GEUses.mk true true false false false false false))
 (.ite 37 (t3 == 17)
 (.ret (GEUses.mk false false false false true true true))
 (.ite 40 (t3 == 20)
 (.ret (GEUses.mk true true false false false true false))
 (.ite 43 (t3 == 25)
 (.ret (GEUses.mk true true false false true false false))
 (.ite 46 (t3 == 26)
 (.ret (GEUses.mk false false false false false true false))
 (.ite 49 (t3 == 33)
 (.ret (GEUses.mk false false false false true false false))
 (.ret (GEUses.mk false false false false false false false)))))))
theorem h122 (kind_0 : Int) : tp prog x122 b122 (a122 kind_0) (ES.init [.val (.one (.c (.int .i64 kind_0)))]) :=
  of_triv (rs := x122.rs) (snap := x122.snap) (c := a122 kind_0) (by kernel_rfl)
theorem g122 : ∀ j, ck prog x122 b122 c122 j
| .s0 t2 t3 t10 => of_triv (rs := x122.rs) (snap := x122.snap) (c := c122 (.s0 t2 t3 t10)) (by kernel_rfl)
| .s1 t2 t3 t21 => of_triv (rs := x122.rs) (snap := x122.snap) (c := c122 (.s1 t2 t3 t21)) (by kernel_rfl)
| .s2 t2 t3 t26 => of_triv (rs := x122.rs) (snap := x122.snap) (c := c122 (.s2 t2 t3 t26)) (by kernel_rfl)
| .s3 t2 t3 t33 => of_triv (rs := x122.rs) (snap := x122.snap) (c := c122 (.s3 t2 t3 t33)) (by kernel_rfl)
noncomputable def m122 : Mir prog 122 Int GEUses where
  fs := [.one none]
  ga := fun x => [.val (.one (.c (.int .i64 x)))]
  caps := fun x => []
  res := x122.res
  outs := x122.outs
  R := fun x y => Rn c122 (a122 x) y
  ok := fun x y h => sysA (cx := x122) follow func122 (h122 x) (g122) y h
  flat := false
  hflat := nofun
noncomputable def b123 : Code := f123.body.getD .skip
noncomputable def x123 : Cx Empty Bool where
  nt := 73
  rvs := [.tmp 4]
  mh := []
  res := fun y => [.one (.c (.bool y))]
  outs := fun y => []
  path := nofun
  sig := nofun
  snap := nofun
noncomputable def a123 (u_0 : GEUses) (e_1 : GEvent) : Cert prog Empty Bool :=
 .ite 7 u_0.seq
 (.ite 15 u_0.ref
 (.ite 24 u_0.n
 (.ite 33 u_0.code
 (.ite 42 u_0.name
 (.ite 51 u_0.key
 (.ite 60 u_0.data
 (.call m143 (e_1.Opts, zO) fun r1 =>
 .ret r1)
 (.call m83 (e_1.Data, zV) fun r2 =>
 .ite 67 r2
 (.call m143 (e_1.Opts, zO) fun r3 =>
 .ret r3)
 (.ret false)))
 (.ite 57 (strEq e_1.Key eB)
 (.ite 60 u_0.data
 (.call m143 (e_1.Opts, zO) fun r4 =>
 .ret r4)
 (.call m83 (e_1.Data, zV) fun r5 =>
 .ite 67 r5
 (.call m143 (e_1.Opts, zO) fun r6 =>
 .ret r6)
 (.ret false)))
 (.ret false)))
 (.ite 48 (strEq e_1.Name eB)
 (.ite 51 u_0.key
 (.ite 60 u_0.data
 (.call m143 (e_1.Opts, zO) fun r7 =>
 .ret r7)
 (.call m83 (e_1.Data, zV) fun r8 =>
 .ite 67 r8
 (.call m143 (e_1.Opts, zO) fun r9 =>
 .ret r9)
 (.ret false)))
 (.ite 57 (strEq e_1.Key eB)
 (.ite 60 u_0.data
 (.call m143 (e_1.Opts, zO) fun r10 =>
 .ret r10)
 (.call m83 (e_1.Data, zV) fun r11 =>
 .ite 67 r11
 (.call m143 (e_1.Opts, zO) fun r12 =>
 .ret r12)
 (.ret false)))
 (.ret false)))
 (.ret false)))
 (.ite 39 (e_1.Code == 0)
 (.ite 42 u_0.name
 (.ite 51 u_0.key
 (.ite 60 u_0.data
 (.call m143 (e_1.Opts, zO) fun r13 =>
 .ret r13)
 (.call m83 (e_1.Data, zV) fun r14 =>
 .ite 67 r14
 (.call m143 (e_1.Opts, zO) fun r15 =>
 .ret r15)
 (.ret false)))
 (.ite 57 (strEq e_1.Key eB)
 (.ite 60 u_0.data
 (.call m143 (e_1.Opts, zO) fun r16 =>
 .ret r16)
 (.call m83 (e_1.Data, zV) fun r17 =>
 .ite 67 r17
 (.call m143 (e_1.Opts, zO) fun r18 =>
 .ret r18)
 (.ret false)))
 (.ret false)))
 (.ite 48 (strEq e_1.Name eB)
 (.ite 51 u_0.key
 (.ite 60 u_0.data
 (.call m143 (e_1.Opts, zO) fun r19 =>
 .ret r19)
 (.call m83 (e_1.Data, zV) fun r20 =>
 .ite 67 r20
 (.call m143 (e_1.Opts, zO) fun r21 =>
 .ret r21)
 (.ret false)))
 (.ite 57 (strEq e_1.Key eB)
 (.ite 60 u_0.data
 (.call m143 (e_1.Opts, zO) fun r22 =>
 .ret r22)
 (.call m83 (e_1.Data, zV) fun r23 =>
 .ite 67 r23
 (.call m143 (e_1.Opts, zO) fun r24 =>
 .ret r24)
 (.ret false)))
 (.ret false)))
 (.ret false)))
 (.ret false)))
 (.ite 30 (e_1.N == 0)
 (.ite 33 u_0.code
 (.ite 42 u_0.name
 (.ite 51 u_0.key
 (.ite 60 u_0.data
 (.call m143 (e_1.Opts, zO) fun r25 =>
 .ret r25)
 (.call m83 (e_1.Data, zV) fun r26 =>
 .ite 67 r26
 (.call m143 (e_1.Opts, zO) fun r27 =>
 .ret r27)
 (.ret false)))
 (.ite 57 (strEq e_1.Key eB)
 (.ite 60 u_0.data
 (.call m143 (e_1.Opts, zO) fun r28 =>
 .ret r28)
 (.call m83 (e_1.Data, zV) fun r29 =>
 .ite 67 r29
 (.call m143 (e_1.Opts, zO) fun r30 =>
 .ret r30)
 (.ret false)))
 (.ret false)))
 (.ite 48 (strEq e_1.Name eB)
 (.ite 51 u_0.key
 (.ite 60 u_0.data
 (.call m143 (e_1.Opts, zO) fun r31 =>
 .ret r31)
 (.call m83 (e_1.Data, zV) fun r32 =>
 .ite 67 r32
 (.call m143 (e_1.Opts, zO) fun r33 =>
 .ret r33)
 (.ret false)))
 (.ite 57 (strEq e_1.Key eB)
 (.ite 60 u_0.data
 (.call m143 (e_1.Opts, zO) fun r34 =>
 .ret r34)
 (.call m83 (e_1.Data, zV) fun r35 =>
 .ite 67 r35
 (.call m143 (e_1.Opts, zO) fun r36 =>
 .ret r36)
 (.ret false)))
 (.ret false)))
 (.ret false)))
 (.ite 39 (e_1.Code == 0)
 (.ite 42 u_0.name
 (.ite 51 u_0.key
 (.ite 60 u_0.data
 (.call m143 (e_1.Opts, zO) fun r37 =>
 .ret r37)
 (.call m83 (e_1.Data, zV) fun r38 =>
 .ite 67 r38
 (.call m143 (e_1.Opts, zO) fun r39 =>
 .ret r39)
 (.ret false)))
 (.ite 57 (strEq e_1.Key eB)
 (.ite 60 u_0.data
 (.call m143 (e_1.Opts, zO) fun r40 =>
 .ret r40)
 (.call m83 (e_1.Data, zV) fun r41 =>
 .ite 67 r41
 (.call m143 (e_1.Opts, zO) fun r42 =>
 .ret r42)
 (.ret false)))
 (.ret false)))
 (.ite 48 (strEq e_1.Name eB)
 (.ite 51 u_0.key
 (.ite 60 u_0.data
 (.call m143 (e_1.Opts, zO) fun r43 =>
 .ret r43)
 (.call m83 (e_1.Data, zV) fun r44 =>
 .ite 67 r44
 (.call m143 (e_1.Opts, zO) fun r45 =>
 .ret r45)
 (.ret false)))
 (.ite 57 (strEq e_1.Key eB)
 (.ite 60 u_0.data
 (.call m143 (e_1.Opts, zO) fun r46 =>
 .ret r46)
 (.call m83 (e_1.Data, zV) fun r47 =>
 .ite 67 r47
 (.call m143 (e_1.Opts, zO) fun r48 =>
 .ret r48)
 (.ret false)))
 (.ret false)))
 (.ret false)))
 (.ret false)))
 (.ret false)))
 (.ite 21 (e_1.Ref == 0)
 (.ite 24 u_0.n
 (.ite 33 u_0.code
 (.ite 42 u_0.name
 (.ite 51 u_0.key
 (.ite 60 u_0.data
 (.call m143 (e_1.Opts, zO) fun r49 =>
 .ret r49)
 (.call m83 (e_1.Data, zV) fun r50 =>
 .ite 67 r50
 (.call m143 (e_1.Opts, zO) fun r51 =>
 .ret r51)
 (.ret false)))
 (.ite 57 (strEq e_1.Key eB)
 (.ite 60 u_0.data
 (.call m143 (e_1.Opts, zO) fun r52 =>
 .ret r52)
 (.call m83 (e_1.Data, zV) fun r53 =>
 .ite 67 r53
 (.call m143 (e_1.Opts, zO) fun r54 =>
 .ret r54)
 (.ret false)))
 (.ret false)))
 (.ite 48 (strEq e_1.Name eB)
 (.ite 51 u_0.key
 (.ite 60 u_0.data
 (.call m143 (e_1.Opts, zO) fun r55 =>
 .ret r55)
 (.call m83 (e_1.Data, zV) fun r56 =>
 .ite 67 r56
 (.call m143 (e_1.Opts, zO) fun r57 =>
 .ret r57)
 (.ret false)))
 (.ite 57 (strEq e_1.Key eB)
 (.ite 60 u_0.data
 (.call m143 (e_1.Opts, zO) fun r58 =>
 .ret r58)
 (.call m83 (e_1.Data, zV) fun r59 =>
 .ite 67 r59
 (.call m143 (e_1.Opts, zO) fun r60 =>
 .ret r60)
 (.ret false)))
 (.ret false)))
 (.ret false)))
 (.ite 39 (e_1.Code == 0)
 (.ite 42 u_0.name
 (.ite 51 u_0.key
 (.ite 60 u_0.data
 (.call m143 (e_1.Opts, zO) fun r61 =>
 .ret r61)
 (.call m83 (e_1.Data, zV) fun r62 =>
 .ite 67 r62
 (.call m143 (e_1.Opts, zO) fun r63 =>
 .ret r63)
 (.ret false)))
 (.ite 57 (strEq e_1.Key eB)
 (.ite 60 u_0.data
 (.call m143 (e_1.Opts, zO) fun r64 =>
 .ret r64)
 (.call m83 (e_1.Data, zV) fun r65 =>
 .ite 67 r65
 (.call m143 (e_1.Opts, zO) fun r66 =>
 .ret r66)
 (.ret false)))
 (.ret false)))
 (.ite 48 (strEq e_1.Name eB)
 (.ite 51 u_0.key
 (.ite 60 u_0.data
 (.call m143 (e_1.Opts, zO) fun r67 =>
 .ret r67)
 (.call m83 (e_1.Data, zV) fun r68 =>
 .ite 67 r68
 (.call m143 (e_1.Opts, zO) fun r69 =>
 .ret r69)
 (.ret false)))
 (.ite 57 (strEq e_1.Key eB)
 (.ite 60 u_0.data
 (.call m143 (e_1.Opts, zO) fun r70 =>
 .ret r70)
 (.call m83 (e_1.Data, zV) fun r71 =>
 .ite 67 r71
 (.call m143 (e_1.Opts, zO) fun r72 =>
 .ret r72)
 (.ret false)))
 (.ret false)))
 (.ret false)))
 (.ret false)))
 (.ite 30 (e_1.N == 0)
 (.ite 33 u_0.code
 (.ite 42 u_0.name
 (.ite 51 u_0.key
 (.ite 60 u_0.data
 (.call m143 (e_1.Opts, zO) fun r73 =>
 .ret r73)
 (.call m83 (e_1.Data, zV) fun r74 =>
 .ite 67 r74
 (.call m143 (e_1.Opts, zO) fun r75 =>
 .ret r75)
 (.ret false)))
 (.ite 57 (strEq e_1.Key eB)
 (.ite 60 u_0.data
 (.call m143 (e_1.Opts, zO) fun r76 =>
 .ret r76)
 (.call m83 (e_1.Data, zV) fun r77 =>
 .ite 67 r77
 (.call m143 (e_1.Opts, zO) fun r78 =>
 .ret r78)
 (.ret false)))
 (.ret false)))
 (.ite 48 (strEq e_1.Name eB)
 (.ite 51 u_0.key
 (.ite 60 u_0.data
 (.call m143 (e_1.Opts, zO) fun r79 =>
 .ret r79)
 (.call m83 (e_1.Data, zV) fun r80 =>
 .ite 67 r80
 (.call m143 (e_1.Opts, zO) fun r81 =>
 .ret r81)
 (.ret false)))
 (.ite 57 (strEq e_1.Key eB)
 (.ite 60 u_0.data
 (.call m143 (e_1.Opts, zO) fun r82 =>
 .ret r82)
 (.call m83 (e_1.Data, zV) fun r83 =>
 .ite 67 r83
 (.call m143 (e_1.Opts, zO) fun r84 =>
 .ret r84)
 (.ret false)))
 (.ret false)))
 (.ret false)))
 (.ite 39 (e_1.Code == 0)
 (.ite 42 u_0.name
 (.ite 51 u_0.key
 (.ite 60 u_0.data
 (.call m143 (e_1.Opts, zO) fun r85 =>
 .ret r85)
 (.call m83 (e_1.Data, zV) fun r86 =>
 .ite 67 r86
 (.call m143 (e_1.Opts, zO) fun r87 =>
 .ret r87)
 (.ret false)))
 (.ite 57 (strEq e_1.Key eB)
 (.ite 60 u_0.data
 (.call m143 (e_1.Opts, zO) fun r88 =>
 .ret r88)
 (.call m83 (e_1.Data, zV) fun r89 =>
 .ite 67 r89
 (.call m143 (e_1.Opts, zO) fun r90 =>
 .ret r90)
 (.ret false)))
 (.ret false)))
 (.ite 48 (strEq e_1.Name eB)
 (.ite 51 u_0.key
 (.ite 60 u_0.data
 (.call m143 (e_1.Opts, zO) fun r91 =>
 .ret r91)
 (.call m83 (e_1.Data, zV) fun r92 =>
 .ite 67 r92
 (.call m143 (e_1.Opts, zO) fun r93 =>
 .ret r93)
 (.ret false)))
 (.ite 57 (strEq e_1.Key eB)
 (.ite 60 u_0.data
 (.call m143 (e_1.Opts, zO) fun r94 =>
 .ret r94)
 (.call m83 (e_1.Data, zV) fun r95 =>
 .ite 67 r95
 (.call m143 (e_1.Opts, zO) fun r96 =>
 .ret r96)
 (.ret false)))
 (.ret false)))
 (.ret false)))
 (.ret false)))
 (.ret false)))
 (.ret false)))
 (.ite 12 (e_1.Seq == 0)
 (.ite 15 u_0.ref
 (.ite 24 u_0.n
 (.ite 33 u_0.code
 (.ite 42 u_0.name
 (.ite 51 u_0.key
 (.ite 60 u_0.data
 (.call m143 (e_1.Opts, zO) fun r97 =>
 .ret r97)
 (.call m83 (e_1.Data, zV) fun r98 =>
 .ite 67 r98
 (.call m143 (e_1.Opts, zO) fun r99 =>
 .ret r99)
 (.ret false)))
 (.ite 57 (strEq e_1.Key eB)
 (.ite 60 u_0.data
 (.call m143 (e_1.Opts, zO) fun r100 =>
 .ret r100)
 (.call m83 (e_1.Data, zV) fun r101 =>
 .ite 67 r101
 (.call m143 (e_1.Opts, zO) fun r102 =>
 .ret r102)
 (.ret false)))
 (.ret false)))
 (.ite 48 (strEq e_1.Name eB)
 (.ite 51 u_0.key
 (.ite 60 u_0.data
 (.call m143 (e_1.Opts, zO) fun r103 =>
 .ret r103)
 (.call m83 (e_1.Data, zV) fun r104 =>
 .ite 67 r104
 (.call m143 (e_1.Opts, zO) fun r105 =>
 .ret r105)
 (.ret false)))
 (.ite 57 (strEq e_1.Key eB)
 (.ite 60 u_0.data
 (.call m143 (e_1.Opts, zO) fun r106 =>
 .ret r106)
 (.call m83 (e_1.Data, zV) fun r107 =>
 .ite 67 r107
 (.call m143 (e_1.Opts, zO) fun r108 =>
 .ret r108)
 (.ret false)))
 (.ret false)))
 (.ret false)))
 (.ite 39 (e_1.Code == 0)
 (.ite 42 u_0.name
 (.ite 51 u_0.key
 (.ite 60 u_0.data
 (.call m143 (e_1.Opts, zO) fun r109 =>
 .ret r109)
 (.call m83 (e_1.Data, zV) fun r110 =>
 .ite 67 r110
 (.call m143 (e_1.Opts, zO) fun r111 =>
 .ret r111)
 (.ret false)))
 (.ite 57 (strEq e_1.Key eB)
 (.ite 60 u_0.data
 (.call m143 (e_1.Opts, zO) fun r112 =>
 .ret r112)
 (.call m83 (e_1.Data, zV) fun r113 =>
 .ite 67 r113
 (.call m143 (e_1.Opts, zO) fun r114 =>
 .ret r114)
 (.ret false)))
 (.ret false)))
 (.ite 48 (strEq e_1.Name eB)
 (.ite 51 u_0.key
 (.ite 60 u_0.data
 (.call m143 (e_1.Opts, zO) fun r115 =>
 .ret r115)
 (.call m83 (e_1.Data, zV) fun r116 =>
 .ite 67 r116
 (.call m143 (e_1.Opts, zO) fun r117 =>
 .ret r117)
 (.ret false)))
 (.ite 57 (strEq e_1.Key eB)
 (.ite 60 u_0.data
 (.call m143 (e_1.Opts, zO) fun r118 =>
 .ret r118)
 (.call m83 (e_1.Data, zV) fun r119 =>
 .ite 67 r119
 (.call m143 (e_1.Opts, zO) fun r120 =>
 .ret r120)
 (.ret false)))
 (.ret false)))
 (.ret false)))
 (.ret false)))
 (.ite 30 (e_1.N == 0)
 (.ite 33 u_0.code
 (.ite 42 u_0.name
 (.ite 51 u_0.key
 (.ite 60 u_0.data
 (.call m143 (e_1.Opts, zO) fun r121 =>
 .ret r121)
 (.call m83 (e_1.Data, zV) fun r122 =>
 .ite 67 r122
 (.call m143 (e_1.Opts, zO) fun r123 =>
 .ret r123)
 (.ret false)))
 (.ite 57 (strEq e_1.Key eB)
 (.ite 60 u_0.data
 (.call m143 (e_1.Opts, zO) fun r124 =>
 .ret r124)
 (.call m83 (e_1.Data, zV) fun r125 =>
 .ite 67 r125
 (.call m143 (e_1.Opts, zO) fun r126 =>
 .ret r126)
 (.ret false)))
 (.ret false)))
 (.ite 48 (strEq e_1.Name eB)
 (.ite 51 u_0.key
 (.ite 60 u_0.data
 (.call m143 (e_1.Opts, zO) fun r127 =>
 .ret r127)
 (.call m83 (e_1.Data, zV) fun r128 =>
 .ite 67 r128
 (.call m143 (e_1.Opts, zO) fun r129 =>
 .ret r129)
 (.ret false)))
 (.ite 57 (strEq e_1.Key eB)
 (.ite 60 u_0.data
 (.call m143 (e_1.Opts, zO) fun r130 =>
 .ret r130)
 (.call m83 (e_1.Data, zV) fun r131 =>
 .ite 67 r131
 (.call m143 (e_1.Opts, zO) fun r132 =>
 .ret r132)
 (.ret false)))
 (.ret false)))
 (.ret false)))
 (.ite 39 (e_1.Code == 0)
 (.ite 42 u_0.name
 (.ite 51 u_0.key
 (.ite 60 u_0.data
 (.call m143 (e_1.Opts, zO) fun r133 =>
 .ret r133)
 (.call m83 (e_1.Data, zV) fun r134 =>
 .ite 67 r134
 (.call m143 (e_1.Opts, zO) fun r135 =>
 .ret r135)
 (.ret false)))
 (.ite 57 (strEq e_1.Key eB)
 (.ite 60 u_0.data
 (.call m143 (e_1.Opts, zO) fun r136 =>
 .ret r136)
 (.call m83 (e_1.Data, zV) fun r137 =>
 .ite 67 r137
 (.call m143 (e_1.Opts, zO) fun r138 =>
 .ret r138)
 (.ret false)))
 (.ret false)))
 (.ite 48 (strEq e_1.Name eB)
 (.ite 51 u_0.key
 (.ite 60 u_0.data
 (.call m143 (e_1.Opts, zO) fun r139 =>
 .ret r139)
 (.call m83 (e_1.Data, zV) fun r140 =>
 .ite 67 r140
 (.call m143 (e_1.Opts, zO) fun r141 =>
 .ret r141)
 (.ret false)))
 (.ite 57 (strEq e_1.Key eB)
 (.ite 60 u_0.data
 (.call m143 (e_1.Opts, zO) fun r142 =>
 .ret r142)
 (.call m83 (e_1.Data, zV) fun r143 =>
 .ite 67 r143
 (.call m143 (e_1.Opts, zO) fun r144 =>
 .ret r144)
 (.ret false)))
 (.ret false)))
 (.ret false)))
 (.ret false)))
 (.ret false)))
 (.ite 21 (e_1.Ref == 0)
 (.ite 24 u_0.n
 (.ite 33 u_0.code
 (.ite 42 u_0.name
 (.ite 51 u_0.key
 (.ite 60 u_0.data
 (.call m143 (e_1.Opts, zO) fun r145 =>
 .ret r145)
 (.call m83 (e_1.Data, zV) fun r146 =>
 .ite 67 r146
 (.call m143 (e_1.Opts, zO) fun r147 =>
 .ret r147)
 (.ret false)))
 (.ite 57 (strEq e_1.Key eB)
 (.ite 60 u_0.data
 (.call m143 (e_1.Opts, zO) fun r148 =>
 .ret r148)
 (.call m83 (e_1.Data, zV) fun r149 =>
 .ite 67 r149
 (.call m143 (e_1.Opts, zO) fun r150 =>
 .ret r150)
 (.ret false)))
 (.ret false)))
 (.ite 48 (strEq e_1.Name eB)
 (.ite 51 u_0.key
 (.ite 60 u_0.data
 (.call m143 (e_1.Opts, zO) fun r151 =>
 .ret r151)
 (.call m83 (e_1.Data, zV) fun r152 =>
 .ite 67 r152
 (.call m143 (e_1.Opts, zO) fun r153 =>
 .ret r153)
 (.ret false)))
 (.ite 57 (strEq e_1.Key eB)
 (.ite 60 u_0.data
 (.call m143 (e_1.Opts, zO) fun r154 =>
 .ret r154)
 (.call m83 (e_1.Data, zV) fun r155 =>
 .ite 67 r155
 (.call m143 (e_1.Opts, zO) fun r156 =>
 .ret r156)
 (.ret false)))
 (.ret false)))
 (.ret false)))
 (.ite 39 (e_1.Code == 0)
 (.ite 42 u_0.name
 (.ite 51 u_0.key
 (.ite 60 u_0.data
 (.call m143 (e_1.Opts, zO) fun r157 =>
 .ret r157)
 (.call m83 (e_1.Data, zV) fun r158 =>
 .ite 67 r158
 (.call m143 (e_1.Opts, zO) fun r159 =>
 .ret r159)
 (.ret false)))
 (.ite 57 (strEq e_1.Key eB)
 (.ite 60 u_0.data
 (.call m143 (e_1.Opts, zO) fun r160 =>
 .ret r160)
 (.call m83 (e_1.Data, zV) fun r161 =>
 .ite 67 r161
 (.call m143 (e_1.Opts, zO) fun r162 =>
 .ret r162)
 (.ret false)))
 (.ret false)))
 (.ite 48 (strEq e_1.Name eB)
 (.ite 51 u_0.key
 (.ite 60 u_0.data
 (.call m143 (e_1.Opts, zO) fun r163 =>
 .ret r163)
 (.call m83 (e_1.Data, zV) fun r164 =>
 .ite 67 r164
 (.call m143 (e_1.Opts, zO) fun r165 =>
 .ret r165)
 (.ret false)))
 (.ite 57 (strEq e_1.Key eB)
 (.ite 60 u_0.data
 (.call m143 (e_1.Opts, zO) fun r166 =>
 .ret r166)
 (.call m83 (e_1.Data, zV) fun r167 =>
 .ite 67 r167
 (.call m143 (e_1.Opts, zO) fun r168 =>
 .ret r168)
 (.ret false)))
 (.ret false)))
 (.ret false)))
 (.ret false)))
 (.ite 30 (e_1.N == 0)
 (.ite 33 u_0.code
 (.ite 42 u_0.name
 (.ite 51 u_0.key
 (.ite 60 u_0.data
 (.call m143 (e_1.Opts, zO) fun r169 =>
 .ret r169)
 (.call m83 (e_1.Data, zV) fun r170 =>
 .ite 67 r170
 (.call m143 (e_1.Opts, zO) fun r171 =>
 .ret r171)
 (.ret false)))
 (.ite 57 (strEq e_1.Key eB)
 (.ite 60 u_0.data
 (.call m143 (e_1.Opts, zO) fun r172 =>
 .ret r172)
 (.call m83 (e_1.Data, zV) fun r173 =>
 .ite 67 r173
 (.call m143 (e_1.Opts, zO) fun r174 =>
 .ret r174)
 (.ret false)))
 (.ret false)))
 (.ite 48 (strEq e_1.Name eB)
 (.ite 51 u_0.key
 (.ite 60 u_0.data
 (.call m143 (e_1.Opts, zO) fun r175 =>
 .ret r175)
 (.call m83 (e_1.Data, zV) fun r176 =>
 .ite 67 r176
 (.call m143 (e_1.Opts, zO) fun r177 =>
 .ret r177)
 (.ret false)))
 (.ite 57 (strEq e_1.Key eB)
 (.ite 60 u_0.data
 (.call m143 (e_1.Opts, zO) fun r178 =>
 .ret r178)
 (.call m83 (e_1.Data, zV) fun r179 =>
 .ite 67 r179
 (.call m143 (e_1.Opts, zO) fun r180 =>
 .ret r180)
 (.ret false)))
 (.ret false)))
 (.ret false)))
 (.ite 39 (e_1.Code == 0)
 (.ite 42 u_0.name
 (.ite 51 u_0.key
 (.ite 60 u_0.data
 (.call m143 (e_1.Opts, zO) fun r181 =>
 .ret r181)
 (.call m83 (e_1.Data, zV) fun r182 =>
 .ite 67 r182
 (.call m143 (e_1.Opts, zO) fun r183 =>
 .ret r183)
 (.ret false)))
 (.ite 57 (strEq e_1.Key eB)
 (.ite 60 u_0.data
 (.call m143 (e_1.Opts, zO) fun r184 =>
 .ret r184)
 (.call m83 (e_1.Data, zV) fun r185 =>
 .ite 67 r185
 (.call m143 (e_1.Opts, zO) fun r186 =>
 .ret r186)
 (.ret false)))
 (.ret false)))
 (.ite 48 (strEq e_1.Name eB)
 (.ite 51 u_0.key
 (.ite 60 u_0.data
 (.call m143 (e_1.Opts, zO) fun r187 =>
 .ret r187)
 (.call m83 (e_1.Data, zV) fun r188 =>
 .ite 67 r188
 (.call m143 (e_1.Opts, zO) fun r189 =>
 .ret r189)
 (.ret false)))
 (.ite 57 (strEq e_1.Key eB)
 (.ite 60 u_0.data
 (.call m143 (e_1.Opts, zO) fun r190 =>
 .ret r190)
 (.call m83 (e_1.Data, zV) fun r191 =>
 .ite 67 r191
 (.call m143 (e_1.Opts, zO) fun r192 =>
 .ret r192)
 (.ret false)))
 (.ret false)))
 (.ret false)))
 (.ret false)))
 (.ret false)))
 (.ret false)))
 (.ret false))
noncomputable def c123 : Empty → Cert prog Empty Bool := nofun
theorem h123 (u_0 : GEUses) (e_1 : GEvent) : tp prog x123 b123 (a123 u_0 e_1) (ES.init [.val (.agg ((GEUses.cs u_0).map R.c)), .val (.agg ((GEvent.cs e_1).map R.c))]) :=
  of_triv (rs := x123.rs) (snap := x123.snap) (c := a123 u_0 e_1) (by kernel_rfl)
theorem g123 : ∀ j, ck prog x123 b123 c123 j := nofun
noncomputable def m123 : Mir prog 123 (GEUses × GEvent) Bool where
  fs := [.agg (List.replicate 7 none), .agg (List.replicate 24 none)]
  ga := fun x => [.val (.agg ((GEUses.cs x.1).map R.c)), .val (.agg ((GEvent.cs x.2).map R.c))]
  caps := fun x => []
  res := x123.res
  outs := x123.outs
  R := fun x y => Rn c123 (a123 x.1 x.2) y
  ok := fun x y h => sysA (cx := x123) follow func123 (h123 x.1 x.2) (g123) y h
  flat := true
  hflat := fun _ _ => flatE rfl
inductive J185 where
| s0 (s_t0 : ByteArray) (t5 : Int) (t6 : Int)
noncomputable def b185 : Code := f185.body.getD .skip
noncomputable def x185 : Cx J185 Bool where
  nt := 35
  rvs := [.tmp 2]
  mh := []
  res := fun y => [.one (.c (.bool y))]
  outs := fun y => []
  path := fun
    | .s0 _ _ _ => [0, 1, 0, 1]
  sig := fun
    | .s0 _ _ _ => [0, 5, 6]
  snap := fun
    | .s0 s_t0 t5 t6 => ⟨[(0, .one (.c (.str s_t0))), (5, .one (.c (.int .i64 t5))), (6, .one (.c (.int .i64 t6)))], []⟩
noncomputable def a185 (s_0 : ByteArray) : Cert prog J185 Bool :=
 .jump (.s0 s_0 (s_0.size : Int) 0) []
noncomputable def c185 : J185 → Cert prog J185 Bool
| .s0 s_t0 t5 t6 =>
 .ite 7 (decide (t6 < t5))
 (.byte s_t0 t6 <|
 .ite 13 (decide ((byteAt s_t0 t6.toNat) < 33))
 (.ret false)
 (.byte s_t0 t6 <|
 .ite 19 (decide (126 < (byteAt s_t0 t6.toNat)))
 (.ret false)
 (.byte s_t0 t6 <|
 .ite 25 ((byteAt s_t0 t6.toNat) == 47)
 (.ret false)
 (.byte s_t0 t6 <|
 .ite 30 ((byteAt s_t0 t6.toNat) == 34)
 (.ret false)
 (.jump (.s0 s_t0 t5 (IntKind.i64.wrap (t6 + 1))) [])))))
 (.call m118 ((s_t0.size : Int), 1, 64) fun r1 =>
 .ret r1)
theorem h185 (s_0 : ByteArray) : tp prog x185 b185 (a185 s_0) (ES.init [.val (.one (.c (.str s_0)))]) :=
  of_triv (rs := x185.rs) (snap := x185.snap) (c := a185 s_0) (by kernel_rfl)
theorem g185 : ∀ j, ck prog x185 b185 c185 j
| .s0 s_t0 t5 t6 => of_triv (rs := x185.rs) (snap := x185.snap) (c := c185 (.s0 s_t0 t5 t6)) (by kernel_rfl)
noncomputable def m185 : Mir prog 185 ByteArray Bool where
  fs := [.one none]
  ga := fun x => [.val (.one (.c (.str x)))]
  caps := fun x => []
  res := x185.res
  outs := x185.outs
  R := fun x y => Rn c185 (a185 x) y
  ok := fun x y h => sysA (cx := x185) follow func185 (h185 x) (g185) y h
  flat := true
  hflat := fun _ _ => flatE rfl
inductive J186 where
| s0 (t26 : List GVal) (t27 : Int) (t28 : Int)
noncomputable def b186 : Code := f186.body.getD .skip
noncomputable def x186 : Cx J186 Bool where
  nt := 59
  rvs := [.tmp 2]
  mh := []
  res := fun y => [.one (.c (.bool y))]
  outs := fun y => []
  path := fun
    | .s0 _ _ _ => [0, 1, 0, 1, 1]
  sig := fun
    | .s0 _ _ _ => [26, 27, 28]
  snap := fun
    | .s0 t26 t27 t28 => ⟨[(26, .one (.c (.sl (E.GVal.L t26)))), (27, .one (.c (.int .i64 t27))), (28, .one (.c (.int .i64 t28)))], []⟩
noncomputable def a186 (v_0 : GVal) : Cert prog J186 Bool :=
 .ite 8 (v_0.Kind != 4)
 (.ret false)
 (.len E.GVal v_0.Items <|
 .ite 14 ((v_0.Items.length : Int) != 2)
 (.ret false)
 (.elem E.GVal v_0.Items 1 fun a1 =>
 .ite 21 (a1.Kind != 4)
 (.ret false)
 (.elem E.GVal v_0.Items 1 fun a2 =>
 .len E.GVal a2.Items <|
 .jump (.s0 a2.Items (a2.Items.length : Int) 0) [])))
noncomputable def c186 : J186 → Cert prog J186 Bool
| .s0 t26 t27 t28 =>
 .ite 29 (decide (t28 < t27))
 (.elem E.GVal t26 t28 fun a3 =>
 .ite 35 (a3.Kind != 4)
 (.ret false)
 (.len E.GVal a3.Items <|
 .ite 41 ((a3.Items.length : Int) != 2)
 (.ret false)
 (.elem E.GVal a3.Items 0 fun a4 =>
 .ite 49 (a4.Kind != 3)
 (.ret false)
 (.elem E.GVal a3.Items 0 fun a5 =>
 .call m151 a5.Text fun r6 =>
 .ite 57 (!r6)
 (.ret false)
 (.jump (.s0 t26 t27 (IntKind.i64.wrap (t28 + 1))) [])))))
 (.ret true)
theorem h186 (v_0 : GVal) : tp prog x186 b186 (a186 v_0) (ES.init [.val (.agg ((GVal.cs v_0).map R.c))]) :=
  of_triv (rs := x186.rs) (snap := x186.snap) (c := a186 v_0) (by kernel_rfl)
theorem g186 : ∀ j, ck prog x186 b186 c186 j
| .s0 t26 t27 t28 => of_triv (rs := x186.rs) (snap := x186.snap) (c := c186 (.s0 t26 t27 t28)) (by kernel_rfl)
noncomputable def m186 : Mir prog 186 GVal Bool where
  fs := [.agg (List.replicate 5 none)]
  ga := fun x => [.val (.agg ((GVal.cs x).map R.c))]
  caps := fun x => []
  res := x186.res
  outs := x186.outs
  R := fun x y => Rn c186 (a186 x) y
  ok := fun x y h => sysA (cx := x186) follow func186 (h186 x) (g186) y h
  flat := true
  hflat := fun _ _ => flatE rfl
inductive J124 where
| s0 (e_t1 : GEvent) (t6 : Int) (t47 : Bool)
noncomputable def b124 : Code := f124.body.getD .skip
noncomputable def x124 : Cx J124 Bool where
  nt := 85
  rvs := [.tmp 2]
  mh := []
  res := fun y => [.one (.c (.bool y))]
  outs := fun y => []
  path := fun
    | .s0 _ _ _ => [1, 1, 1, 1, 1, 1, 1, 1, 1, 1, 1, 0, 1, 0, 1]
  sig := fun
    | .s0 _ _ _ => [1, 6, 47]
  snap := fun
    | .s0 e_t1 t6 t47 => ⟨[(1, .one (.ptr 0 1 0)), (6, .one (.c (.int .i64 t6))), (47, .one (.c (.bool t47)))], [((0, 1), .box ((GEvent.cs e_t1).map A.c))]⟩
noncomputable def a124 (e_0 : GEvent) : Cert prog J124 Bool :=
 .ite 7 (e_0.Kind == 1)
 (.call m151 e_0.Name fun r1 =>
 .ite 12 r1
 (.call m185 e_0.Key fun r2 =>
 .ite 17 r2
 (.call m118 (e_0.N, 0, 4294967295) fun r3 =>
 .ite 22 r3
 (.call m186 e_0.Data fun r4 =>
 .ret r4)
 (.ret false))
 (.ret false))
 (.ret false))
 (.ite 27 (e_0.Kind == 2)
 (.ret (decide (1 ≤ e_0.N)))
 (.ite 32 (e_0.Kind == 5)
 (.call m118 (e_0.Code, 1, 30) fun r5 =>
 .ret r5)
 (.ite 37 (e_0.Kind == 8)
 (.call m118 (e_0.N, 1, 1000) fun r6 =>
 .ret r6)
 (.ite 42 (e_0.Kind == 11)
 (.call m118 (e_0.Code, 1, 4) fun r7 =>
 .ret r7)
 (.ite 47 (e_0.Kind == 10)
 (.jump (.s0 e_0 e_0.Kind true) [(1000, 1)])
 (.ite 47 (e_0.Kind == 22)
 (.jump (.s0 e_0 e_0.Kind true) [(1000, 1)])
 (.jump (.s0 e_0 e_0.Kind (e_0.Kind == 25)) [(1000, 1)])))))))
noncomputable def c124 : J124 → Cert prog J124 Bool
| .s0 e_t1 t6 t47 =>
 .ite 47 t47
 (.ret (decide ((e_t1.Name.size : Int) ≤ 4096)))
 (.ite 55 (t6 == 33)
 (.ret (decide ((e_t1.Name.size : Int) ≤ 64)))
 (.ite 61 (t6 == 17)
 (.call m151 e_t1.Name fun r8 =>
 .ite 66 r8
 (.call m185 e_t1.Key fun r9 =>
 .ret r9)
 (.ret false))
 (.ite 71 (t6 == 26)
 (.call m185 e_t1.Key fun r10 =>
 .ret r10)
 (.ite 76 (t6 == 20)
 (.call m187 e_t1.Key fun r11 =>
 .ret r11.2)
 (.ret true)))))
theorem h124 (e_0 : GEvent) : tp prog x124 b124 (a124 e_0) (ES.init [.val (.agg ((GEvent.cs e_0).map R.c))]) :=
  of_triv (rs := x124.rs) (snap := x124.snap) (c := a124 e_0) (by kernel_rfl)
theorem g124 : ∀ j, ck prog x124 b124 c124 j
| .s0 e_t1 t6 t47 => of_triv (rs := x124.rs) (snap := x124.snap) (c := c124 (.s0 e_t1 t6 t47)) (by kernel_rfl)
noncomputable def m124 : Mir prog 124 GEvent Bool where
  fs := [.agg (List.replicate 24 none)]
  ga := fun x => [.val (.agg ((GEvent.cs x).map R.c))]
  caps := fun x => []
  res := x124.res
  outs := x124.outs
  R := fun x y => Rn c124 (a124 x) y
  ok := fun x y h => sysA (cx := x124) follow func124 (h124 x) (g124) y h
  flat := true
  hflat := fun _ _ => flatE rfl
noncomputable def b61 : Code := f61.body.getD .skip
noncomputable def x61 : Cx Empty Bool where
  nt := 64
  rvs := [.tmp 2]
  mh := []
  res := fun y => [.one (.c (.bool y))]
  outs := fun y => []
  path := nofun
  sig := nofun
  snap := nofun
noncomputable def a61 (e_0 : GEvent) : Cert prog Empty Bool :=
 .call m118 (e_0.Kind, 1, 35) fun r1 =>
 .ite 9 (!r1)
 (.ret false)
 (.call m118 (e_0.ID, 0, 2000) fun r2 =>
 .ite 15 (!r2)
 (.ret false)
 (.call m118 (e_0.Time, 0, 1099511627776) fun r3 =>
 .ite 21 (!r3)
 (.ret false)
 (.call m119 e_0.Data fun r4 =>
 .ite 26 (!r4)
 (.ret false)
 (.call m120 e_0.Kind fun r5 =>
 .ite 31 (r5 != 0)
 (.call m121 (e_0, r5) fun r6 =>
 .ret r6)
 (.call m122 e_0.Kind fun r7 =>
 .call m123 (r7, e_0) fun r8 =>
 .ite 42 (!r8)
 (.ret false)
 (.ite 45 r7.seq
 (.call m118 (e_0.Seq, 1, 2000) fun r9 =>
 .ite 52 (!r9)
 (.ret false)
 (.ite 55 r7.ref
 (.call m118 (e_0.Ref, 1, 2000) fun r10 =>
 .ite 61 (!r10)
 (.ret false)
 (.call m124 e_0 fun r11 =>
 .ret r11))
 (.call m124 e_0 fun r12 =>
 .ret r12)))
 (.ite 55 r7.ref
 (.call m118 (e_0.Ref, 1, 2000) fun r13 =>
 .ite 61 (!r13)
 (.ret false)
 (.call m124 e_0 fun r14 =>
 .ret r14))
 (.call m124 e_0 fun r15 =>
 .ret r15))))))))
noncomputable def c61 : Empty → Cert prog Empty Bool := nofun
theorem h61 (e_0 : GEvent) : tp prog x61 b61 (a61 e_0) (ES.init [.val (.agg ((GEvent.cs e_0).map R.c))]) :=
  of_triv (rs := x61.rs) (snap := x61.snap) (c := a61 e_0) (by kernel_rfl)
theorem g61 : ∀ j, ck prog x61 b61 c61 j := nofun
noncomputable def m61 : Mir prog 61 GEvent Bool where
  fs := [.agg (List.replicate 24 none)]
  ga := fun x => [.val (.agg ((GEvent.cs x).map R.c))]
  caps := fun x => []
  res := x61.res
  outs := x61.outs
  R := fun x y => Rn c61 (a61 x) y
  ok := fun x y h => sysA (cx := x61) follow func61 (h61 x) (g61) y h
  flat := true
  hflat := fun _ _ => flatE rfl
noncomputable def b27 : Code := f27.body.getD .skip
noncomputable def x27 : Cx Empty (Int × Bool) where
  nt := 17
  rvs := [.tmp 2, .tmp 3]
  mh := []
  res := fun y => [.one (.c (.int .i64 y.1)), .one (.c (.bool y.2))]
  outs := fun y => []
  path := nofun
  sig := nofun
  snap := nofun
noncomputable def a27 (kind_0 : Int) : Cert prog Empty (Int × Bool) :=
 .ite 5 (kind_0 == 30)
 (.ret (1, true))
 (.ite 7 (kind_0 == 31)
 (.ret (2, true))
 (.ite 9 (kind_0 == 32)
 (.ret (3, true))
 (.ite 11 (kind_0 == 33)
 (.ret (4, true))
 (.ite 13 (kind_0 == 34)
 (.ret (5, true))
 (.ite 15 (kind_0 == 35)
 (.ret (6, true))
 (.ret (0, false)))))))
noncomputable def c27 : Empty → Cert prog Empty (Int × Bool) := nofun
theorem h27 (kind_0 : Int) : tp prog x27 b27 (a27 kind_0) (ES.init [.val (.one (.c (.int .i64 kind_0)))]) :=
  of_triv (rs := x27.rs) (snap := x27.snap) (c := a27 kind_0) (by kernel_rfl)
theorem g27 : ∀ j, ck prog x27 b27 c27 j := nofun
noncomputable def m27 : Mir prog 27 Int (Int × Bool) where
  fs := [.one none]
  ga := fun x => [.val (.one (.c (.int .i64 x)))]
  caps := fun x => []
  res := x27.res
  outs := x27.outs
  R := fun x y => Rn c27 (a27 x) y
  ok := fun x y h => sysA (cx := x27) follow func27 (h27 x) (g27) y h
  flat := true
  hflat := fun _ _ => flatE rfl
end Tryz
end Go.Proofs
end
