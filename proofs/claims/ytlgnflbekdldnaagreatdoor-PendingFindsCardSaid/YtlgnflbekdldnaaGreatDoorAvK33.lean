/- Texts AvZS AvZV AvZh. -/
import Derived.Test.YtlgnflbekdldnaaGreatDoorAvK32
set_option linter.unusedVariables false
set_option linter.unusedSimpArgs false
set_option linter.unusedSectionVars false
noncomputable section
namespace Go.Proofs
open Go Go.AV
def Tryz.m187 : Mir Tryz.prog 187 (ByteArray) (Int × Bool) where
  fs := [.one none]
  ga := fun x => [.val (.one (.c (.str x)))]
  caps := fun x => []
  res := fun y => [.one (.c (.int .i64 y.1)), .one (.c (.bool y.2))]
  outs := fun y => []
  R := fun _ _ => False
  ok := fun _ _ h => h.elim
  flat := true
  hflat := fun _ _ => flatE rfl
def Tryz.m137 : Mir Tryz.prog 137 (GPending × GVal) (Int × GPending) where
  fs := [.lend (((((((((((List.replicate 24 none).set 10 (some (28, 5))).set 11 (some (9, 1))).set 15 (some (28, 5))).set 16 (some (9, 1))).set 18 (some (47, 32))).set 19 (some (49, 3))).set 20 (some (51, 6))).set 21 (some (53, 4))).set 22 (some (118, 2))).set 23 (some (9, 1))), .agg (List.replicate 5 none)]
  ga := fun x => [.lend ((((((((((((GPending.cs x.1).map R.c).set 10 (.own 28 5 (E.GVal.L x.1.Input.Items))).set 11 (.own 9 1 (E.str.L x.1.Input.Keys))).set 15 (.own 28 5 (E.GVal.L x.1.Attrs.Items))).set 16 (.own 9 1 (E.str.L x.1.Attrs.Keys))).set 18 (.own 47 32 (E.GAct.L x.1.Acts))).set 19 (.own 49 3 (E.GTimer.L x.1.Timers))).set 20 (.own 51 6 (E.GKid.L x.1.Kids))).set 21 (.own 53 4 (E.GSend.L x.1.Sends))).set 22 (.own 118 2 (E.GUpd.L x.1.Updates))).set 23 (.own 9 1 (E.str.L x.1.Requests))), .val (.agg ((GVal.cs x.2).map R.c))]
  caps := fun x => []
  res := fun y => [.one (.c (.int .i64 y.1))]
  outs := fun y => [(((((((((((GPending.cs y.2).map R.c).set 10 (.own 28 5 (E.GVal.L y.2.Input.Items))).set 11 (.own 9 1 (E.str.L y.2.Input.Keys))).set 15 (.own 28 5 (E.GVal.L y.2.Attrs.Items))).set 16 (.own 9 1 (E.str.L y.2.Attrs.Keys))).set 18 (.own 47 32 (E.GAct.L y.2.Acts))).set 19 (.own 49 3 (E.GTimer.L y.2.Timers))).set 20 (.own 51 6 (E.GKid.L y.2.Kids))).set 21 (.own 53 4 (E.GSend.L y.2.Sends))).set 22 (.own 118 2 (E.GUpd.L y.2.Updates))).set 23 (.own 9 1 (E.str.L y.2.Requests))]
  R := fun _ _ => False
  ok := fun _ _ h => h.elim
  flat := false
  hflat := fun h => nomatch h
end Go.Proofs
end
section
namespace Go.AV
abbrev eB : ByteArray := ⟨#[]⟩
abbrev zV : GVal := GVal.mk 0 0 eB [] []
abbrev zO : GPolicy := GPolicy.mk eB 0 0 0 0 0 0 0 0 []
abbrev zP : GPending := GPending.mk 0 0 0 0 0 0 eB zV zV false [] [] [] [] [] []
abbrev nV (t : GVal) : GVal := GVal.mk t.Kind t.Num t.Text [] []
abbrev nP (t : GPending) : GPending := GPending.mk t.Next t.Status t.Task t.TaskID t.Attempt t.Seq t.Name (nV t.Input) (nV t.Attrs) t.Cancel [] [] [] [] [] []
abbrev tp {J Y : Type} (P : Program) (x : Cx J Y) (b : Code) (c : Cert P J Y) (e : ES) := execC P x b [] (topC P x) c e
abbrev ck {J Y : Type} (P : Program) (x : Cx J Y) (b : Code) (c : J → Cert P J Y) (j : J) := chkAt P x b (x.path j) (c j) (x.snap j).es
abbrev Rn {P : Program} {J Y : Type} (c : J → Cert P J Y) (a : Cert P J Y) (y : Y) : Prop := Runs a (KOf (fun j => Ev c j y) y)
theorem sysA {P : Program} {J Y : Type} {f : FuncId} {fn : Func} {body : Code} {cx : Cx J Y} {cert : J → Cert P J Y} {args : List GArg} {c0 : Cert P J Y} (hm : P.follows .mixedOrders = true) (hf : P.funcs[f]? = some fn) (h0 : execC P cx body [] (topC P cx) c0 (ES.init args)) (hj : ∀ j, chkAt P cx body (cx.path j) (cert j) (cx.snap j).es) (y : Y) (hr : Runs c0 (KOf (fun j => Ev cert j y) y))
    (hb : fn.body = some body := by kernel_rfl) (hname : (fn.name == "runtime.NumGoroutine") = false := by kernel_rfl) (hnt : cx.nt = fn.ntmps := by kernel_rfl) (hrv : cx.rvs = fn.results.toList := by kernel_rfl) (hn : args.length ≤ fn.ntmps := by exact Nat.le_of_ble_eq_true rfl) (hmh : cx.mh = mutH 0 args := by kernel_rfl) : SpecG P f args (cx.res y) (cx.outs y) :=
  sys_ok hm hf hb hname hnt hrv args hn hmh c0 h0 hj y hr
end Go.AV
set_option maxRecDepth 100000
set_option maxHeartbeats 2000000
namespace Go.Proofs
namespace Tryz
open Go Go.AV
abbrev O76 (Q : (GVal × Int) → Int → Prop) : Prop := ∀ x y, Q x y → SpecG prog 76 ([.val (.agg ((GVal.cs x.1).map R.c)), .val (.one (.c (.int .i64 x.2)))] ++ ([] : List C).map fun c => .val (.one (.c c))) [.one (.c (.int .i64 y))] []
noncomputable def w76 (Q : (GVal × Int) → Int → Prop) (ok : O76 Q) : Mir prog 76 (GVal × Int) Int where
  fs := [.agg (List.replicate 5 none), .one none]
  ga := fun x => [.val (.agg ((GVal.cs x.1).map R.c)), .val (.one (.c (.int .i64 x.2)))]
  caps := fun x => []
  res := fun y => [.one (.c (.int .i64 y))]
  outs := fun y => []
  R := Q
  ok := ok
  flat := true
  hflat := fun _ _ => flatE rfl
inductive J76 where
| s0 (most_t1 : Int) (v_t2 : GVal) (i_t5 : Int)
| s1 (most_t1 : Int) (v_t2 : GVal)
| s2 (most_t1 : Int) (v_t2 : GVal) (i_t6 : Int)
noncomputable def b76 : Code := f76.body.getD .skip
noncomputable def x76 : Cx J76 Int where
  nt := 51
  rvs := [.tmp 4]
  mh := []
  res := fun y => [.one (.c (.int .i64 y))]
  outs := fun y => []
  path := fun
    | .s0 _ _ _ => [0, 1, 0, 1, 1]
    | .s1 _ _ => [1, 1, 1]
    | .s2 _ _ _ => [0, 1, 0, 1, 1, 1]
  sig := fun
    | .s0 _ _ _ => [1, 2, 5]
    | .s1 _ _ => [1, 2]
    | .s2 _ _ _ => [1, 2, 6]
  snap := fun
    | .s0 most_t1 v_t2 i_t5 => ⟨[(1, .one (.c (.int .i64 most_t1))), (2, .one (.ptr 0 1 0)), (5, .one (.c (.int .i64 i_t5)))], [((0, 1), .box ((GVal.cs v_t2).map A.c))]⟩
    | .s1 most_t1 v_t2 => ⟨[(1, .one (.c (.int .i64 most_t1))), (2, .one (.ptr 0 1 0))], [((0, 1), .box ((GVal.cs v_t2).map A.c))]⟩
    | .s2 most_t1 v_t2 i_t6 => ⟨[(1, .one (.c (.int .i64 most_t1))), (2, .one (.ptr 0 1 0)), (6, .one (.c (.int .i64 i_t6)))], [((0, 1), .box ((GVal.cs v_t2).map A.c))]⟩
noncomputable def a76 (R76 : (GVal × Int) → Int → Prop) (ok76 : O76 R76) (v_0 : GVal) (most_1 : Int) : Cert prog J76 Int :=
 .jump (.s0 (IntKind.i64.wrap ((IntKind.i64.wrap (most_1 - 1)) - (v_0.Text.size : Int))) v_0 0) [(2000, 1)]
noncomputable def c76 (R76 : (GVal × Int) → Int → Prop) (ok76 : O76 R76) : J76 → Cert prog J76 Int
| .s0 most_t1 v_t2 i_t5 =>
 .len E.str v_t2.Keys <|
 .ite 18 (decide (i_t5 < (v_t2.Keys.length : Int)))
 (.ite 21 (decide (0 ≤ most_t1))
 (.elem E.str v_t2.Keys i_t5 fun a1 =>
 .jump (.s0 (IntKind.i64.wrap (most_t1 - (a1.size : Int))) v_t2 (IntKind.i64.wrap (i_t5 + 1))) [(0, 1)])
 (.jump (.s1 most_t1 v_t2) [(0, 1)]))
 (.jump (.s1 most_t1 v_t2) [(0, 1)])
| .s1 most_t1 v_t2 =>
 .jump (.s2 most_t1 v_t2 0) [(0, 1)]
| .s2 most_t1 v_t2 i_t6 =>
 .len E.GVal v_t2.Items <|
 .ite 37 (decide (i_t6 < (v_t2.Items.length : Int)))
 (.ite 40 (decide (0 ≤ most_t1))
 (.elem E.GVal v_t2.Items i_t6 fun a2 =>
 .call (w76 R76 ok76) (a2, most_t1) fun r3 =>
 .jump (.s2 r3 v_t2 (IntKind.i64.wrap (i_t6 + 1))) [(0, 1)])
 (.ret most_t1))
 (.ret most_t1)
theorem h76 (R76 : (GVal × Int) → Int → Prop) (ok76 : O76 R76) (v_0 : GVal) (most_1 : Int) : tp prog x76 b76 (a76 R76 ok76 v_0 most_1) (ES.init [.val (.agg ((GVal.cs v_0).map R.c)), .val (.one (.c (.int .i64 most_1)))]) :=
  of_triv (rs := x76.rs) (snap := x76.snap) (c := a76 R76 ok76 v_0 most_1) (by kernel_rfl)
theorem g76 (R76 : (GVal × Int) → Int → Prop) (ok76 : O76 R76) : ∀ j, chkAt prog x76 b76 (x76.path j) ((c76 R76 ok76) j) (x76.snap j).es
| .s0 most_t1 v_t2 i_t5 => of_triv (rs := x76.rs) (snap := x76.snap) (c := c76 R76 ok76 (.s0 most_t1 v_t2 i_t5)) (by kernel_rfl)
| .s1 most_t1 v_t2 => of_triv (rs := x76.rs) (snap := x76.snap) (c := c76 R76 ok76 (.s1 most_t1 v_t2)) (by kernel_rfl)
| .s2 most_t1 v_t2 i_t6 => of_triv (rs := x76.rs) (snap := x76.snap) (c := c76 R76 ok76 (.s2 most_t1 v_t2 i_t6)) (by kernel_rfl)
noncomputable def n76 : Nat → {Q : (GVal × Int) → Int → Prop // O76 Q}
| 0 => ⟨fun _ _ => False, fun _ _ h => h.elim⟩
| n + 1 => ⟨fun x y => Runs (a76 (n76 n).1 (n76 n).2 x.1 x.2) (KOf (fun j => Ev (c76 (n76 n).1 (n76 n).2) j y) y), fun x y h => sysA (cx := x76) follow func76 (h76 (n76 n).1 (n76 n).2 x.1 x.2) (g76 (n76 n).1 (n76 n).2) y h⟩
noncomputable def m76 : Mir prog 76 (GVal × Int) Int := w76 (fun x y => ∃ n, (n76 n).1 x y) (fun x y h => (n76 h.choose).2 x y h.choose_spec)
inductive J25 where
| s0 (e_t1 : GEvent) (most_t3 : Int) (i_t4 : Int)
noncomputable def b25 : Code := f25.body.getD .skip
noncomputable def x25 : Cx J25 Bool where
  nt := 45
  rvs := [.tmp 2]
  mh := []
  res := fun y => [.one (.c (.bool y))]
  outs := fun y => []
  path := fun
    | .s0 _ _ _ => [0, 1, 0, 1, 1]
  sig := fun
    | .s0 _ _ _ => [1, 3, 4]
  snap := fun
    | .s0 e_t1 most_t3 i_t4 => ⟨[(1, .one (.ptr 0 1 0)), (3, .one (.c (.int .i64 most_t3))), (4, .one (.c (.int .i64 i_t4)))], [((0, 1), .box ((GEvent.cs e_t1).map A.c))]⟩
noncomputable def a25 (e_0 : GEvent) : Cert prog J25 Bool :=
 .call m76 (e_0.Data, 6000) fun r1 =>
 .jump (.s0 e_0 (IntKind.i64.wrap ((IntKind.i64.wrap ((IntKind.i64.wrap (r1 - (e_0.Name.size : Int))) - (e_0.Key.size : Int))) - (e_0.Opts.Queue.size : Int))) 0) [(1000, 1)]
noncomputable def c25 : J25 → Cert prog J25 Bool
| .s0 e_t1 most_t3 i_t4 =>
 .len E.str e_t1.Opts.Fatal <|
 .ite 27 (decide (i_t4 < (e_t1.Opts.Fatal.length : Int)))
 (.ite 30 (decide (0 ≤ most_t3))
 (.elem E.str e_t1.Opts.Fatal i_t4 fun a2 =>
 .jump (.s0 e_t1 (IntKind.i64.wrap ((IntKind.i64.wrap (most_t3 - 1)) - (a2.size : Int))) (IntKind.i64.wrap (i_t4 + 1))) [(0, 1)])
 (.ret (decide (0 ≤ most_t3))))
 (.ret (decide (0 ≤ most_t3)))
theorem h25 (e_0 : GEvent) : tp prog x25 b25 (a25 e_0) (ES.init [.val (.agg ((GEvent.cs e_0).map R.c))]) :=
  of_triv (rs := x25.rs) (snap := x25.snap) (c := a25 e_0) (by kernel_rfl)
theorem g25 : ∀ j, ck prog x25 b25 c25 j
| .s0 e_t1 most_t3 i_t4 => of_triv (rs := x25.rs) (snap := x25.snap) (c := c25 (.s0 e_t1 most_t3 i_t4)) (by kernel_rfl)
noncomputable def m25 : Mir prog 25 GEvent Bool where
  fs := [.agg (List.replicate 24 none)]
  ga := fun x => [.val (.agg ((GEvent.cs x).map R.c))]
  caps := fun x => []
  res := x25.res
  outs := x25.outs
  R := fun x y => Rn c25 (a25 x) y
  ok := fun x y h => sysA (cx := x25) follow func25 (h25 x) (g25) y h
  flat := true
  hflat := fun _ _ => flatE rfl
inductive J14 where
| s0 (l_t0 : List GEvent) (i_t3 : Int)
noncomputable def b14 : Code := f14.body.getD .skip
noncomputable def x14 : Cx J14 Bool where
  nt := 23
  rvs := [.tmp 2]
  mh := []
  res := fun y => [.one (.c (.bool y))]
  outs := fun y => []
  path := fun
    | .s0 _ _ => [0, 1, 0, 1]
  sig := fun
    | .s0 _ _ => [0, 3]
  snap := fun
    | .s0 l_t0 i_t3 => ⟨[(0, .one (.c (.sl (E.GEvent.L l_t0)))), (3, .one (.c (.int .i64 i_t3)))], []⟩
noncomputable def a14 (l_0 : List GEvent) : Cert prog J14 Bool :=
 .jump (.s0 l_0 0) []
noncomputable def c14 : J14 → Cert prog J14 Bool
| .s0 l_t0 i_t3 =>
 .len E.GEvent l_t0 <|
 .ite 8 (decide (i_t3 < (l_t0.length : Int)))
 (.ite 11 (decide (i_t3 ≤ 60))
 (.elem E.GEvent l_t0 i_t3 fun a1 =>
 .call m25 a1 fun r2 =>
 .ite 19 (!r2)
 (.ret false)
 (.jump (.s0 l_t0 (IntKind.i64.wrap (i_t3 + 1))) []))
 (.len E.GEvent l_t0 <|
 .ret (decide ((l_t0.length : Int) ≤ 60))))
 (.len E.GEvent l_t0 <|
 .ret (decide ((l_t0.length : Int) ≤ 60)))
theorem h14 (l_0 : List GEvent) : tp prog x14 b14 (a14 l_0) (ES.init [.val (.one (.c (.sl (E.GEvent.L l_0))))]) :=
  of_triv (rs := x14.rs) (snap := x14.snap) (c := a14 l_0) (by kernel_rfl)
theorem g14 : ∀ j, ck prog x14 b14 c14 j
| .s0 l_t0 i_t3 => of_triv (rs := x14.rs) (snap := x14.snap) (c := c14 (.s0 l_t0 i_t3)) (by kernel_rfl)
noncomputable def m14 : Mir prog 14 (List GEvent) Bool where
  fs := [.one none]
  ga := fun x => [.val (.one (.c (.sl (E.GEvent.L x))))]
  caps := fun x => []
  res := x14.res
  outs := x14.outs
  R := fun x y => Rn c14 (a14 x) y
  ok := fun x y h => sysA (cx := x14) follow func14 (h14 x) (g14) y h
  flat := true
  hflat := fun _ _ => flatE rfl
abbrev O216 (Q : GVal → Int → Prop) : Prop := ∀ x y, Q x y → SpecG prog 216 ([.val (.agg ((GVal.cs x).map R.c))] ++ ([] : List C).map fun c => .val (.one (.c c))) [.one (.c (.int .i64 y))] []
noncomputable def w216 (Q : GVal → Int → Prop) (ok : O216 Q) : Mir prog 216 GVal Int where
  fs := [.agg (List.replicate 5 none)]
  ga := fun x => [.val (.agg ((GVal.cs x).map R.c))]
  caps := fun x => []
  res := fun y => [.one (.c (.int .i64 y))]
  outs := fun y => []
  R := Q
  ok := ok
  flat := true
  hflat := fun _ _ => flatE rfl
inductive J216 where
| s0 (n_t3 : Int) (t7 : List GVal) (t8 : Int) (t9 : Int)
noncomputable def b216 : Code := f216.body.getD .skip
noncomputable def x216 : Cx J216 Int where
  nt := 20
  rvs := [.tmp 2]
  mh := []
  res := fun y => [.one (.c (.int .i64 y))]
  outs := fun y => []
  path := fun
    | .s0 _ _ _ _ => [0, 1, 0, 1, 1]
  sig := fun
    | .s0 _ _ _ _ => [3, 7, 8, 9]
  snap := fun
    | .s0 n_t3 t7 t8 t9 => ⟨[(3, .one (.c (.int .i64 n_t3))), (7, .one (.c (.sl (E.GVal.L t7)))), (8, .one (.c (.int .i64 t8))), (9, .one (.c (.int .i64 t9)))], []⟩
noncomputable def a216 (R216 : GVal → Int → Prop) (ok216 : O216 R216) (v_0 : GVal) : Cert prog J216 Int :=
 .len E.GVal v_0.Items <|
 .jump (.s0 0 v_0.Items (v_0.Items.length : Int) 0) []
noncomputable def c216 (R216 : GVal → Int → Prop) (ok216 : O216 R216) : J216 → Cert prog J216 Int
| .s0 n_t3 t7 t8 t9 =>
 .ite 10 (decide (t9 < t8))
 (.elem E.GVal t7 t9 fun a1 =>
 .call (w216 R216 ok216) a1 fun r2 =>
 .jump (.s0 (if n_t3 < r2 then r2 else n_t3) t7 t8 (IntKind.i64.wrap (t9 + 1))) [])
 (.ret (IntKind.i64.wrap (n_t3 + 1)))
theorem h216 (R216 : GVal → Int → Prop) (ok216 : O216 R216) (v_0 : GVal) : tp prog x216 b216 (a216 R216 ok216 v_0) (ES.init [.val (.agg ((GVal.cs v_0).map R.c))]) :=
  of_triv (rs := x216.rs) (snap := x216.snap) (c := a216 R216 ok216 v_0) (by kernel_rfl)
theorem g216 (R216 : GVal → Int → Prop) (ok216 : O216 R216) : ∀ j, chkAt prog x216 b216 (x216.path j) ((c216 R216 ok216) j) (x216.snap j).es
| .s0 n_t3 t7 t8 t9 => of_triv (rs := x216.rs) (snap := x216.snap) (c := c216 R216 ok216 (.s0 n_t3 t7 t8 t9)) (by kernel_rfl)
noncomputable def n216 : Nat → {Q : GVal → Int → Prop // O216 Q}
| 0 => ⟨fun _ _ => False, fun _ _ h => h.elim⟩
| n + 1 => ⟨fun x y => Runs (a216 (n216 n).1 (n216 n).2 x) (KOf (fun j => Ev (c216 (n216 n).1 (n216 n).2) j y) y), fun x y h => sysA (cx := x216) follow func216 (h216 (n216 n).1 (n216 n).2 x) (g216 (n216 n).1 (n216 n).2) y h⟩
noncomputable def m216 : Mir prog 216 GVal Int := w216 (fun x y => ∃ n, (n216 n).1 x y) (fun x y h => (n216 h.choose).2 x y h.choose_spec)
abbrev O217 (Q : GVal → Int → Prop) : Prop := ∀ x y, Q x y → SpecG prog 217 ([.val (.agg ((GVal.cs x).map R.c))] ++ ([] : List C).map fun c => .val (.one (.c c))) [.one (.c (.int .i64 y))] []
noncomputable def w217 (Q : GVal → Int → Prop) (ok : O217 Q) : Mir prog 217 GVal Int where
  fs := [.agg (List.replicate 5 none)]
  ga := fun x => [.val (.agg ((GVal.cs x).map R.c))]
  caps := fun x => []
  res := fun y => [.one (.c (.int .i64 y))]
  outs := fun y => []
  R := Q
  ok := ok
  flat := true
  hflat := fun _ _ => flatE rfl
inductive J217 where
| s0 (n_t3 : Int) (t7 : List GVal) (t8 : Int) (t9 : Int)
noncomputable def b217 : Code := f217.body.getD .skip
noncomputable def x217 : Cx J217 Int where
  nt := 19
  rvs := [.tmp 2]
  mh := []
  res := fun y => [.one (.c (.int .i64 y))]
  outs := fun y => []
  path := fun
    | .s0 _ _ _ _ => [0, 1, 0, 1, 1]
  sig := fun
    | .s0 _ _ _ _ => [3, 7, 8, 9]
  snap := fun
    | .s0 n_t3 t7 t8 t9 => ⟨[(3, .one (.c (.int .i64 n_t3))), (7, .one (.c (.sl (E.GVal.L t7)))), (8, .one (.c (.int .i64 t8))), (9, .one (.c (.int .i64 t9)))], []⟩
noncomputable def a217 (R217 : GVal → Int → Prop) (ok217 : O217 R217) (v_0 : GVal) : Cert prog J217 Int :=
 .len E.GVal v_0.Items <|
 .jump (.s0 1 v_0.Items (v_0.Items.length : Int) 0) []
noncomputable def c217 (R217 : GVal → Int → Prop) (ok217 : O217 R217) : J217 → Cert prog J217 Int
| .s0 n_t3 t7 t8 t9 =>
 .ite 10 (decide (t9 < t8))
 (.elem E.GVal t7 t9 fun a1 =>
 .call (w217 R217 ok217) a1 fun r2 =>
 .jump (.s0 (IntKind.i64.wrap (n_t3 + r2)) t7 t8 (IntKind.i64.wrap (t9 + 1))) [])
 (.ret n_t3)
theorem h217 (R217 : GVal → Int → Prop) (ok217 : O217 R217) (v_0 : GVal) : tp prog x217 b217 (a217 R217 ok217 v_0) (ES.init [.val (.agg ((GVal.cs v_0).map R.c))]) :=
  of_triv (rs := x217.rs) (snap := x217.snap) (c := a217 R217 ok217 v_0) (by kernel_rfl)
theorem g217 (R217 : GVal → Int → Prop) (ok217 : O217 R217) : ∀ j, chkAt prog x217 b217 (x217.path j) ((c217 R217 ok217) j) (x217.snap j).es
| .s0 n_t3 t7 t8 t9 => of_triv (rs := x217.rs) (snap := x217.snap) (c := c217 R217 ok217 (.s0 n_t3 t7 t8 t9)) (by kernel_rfl)
noncomputable def n217 : Nat → {Q : GVal → Int → Prop // O217 Q}
| 0 => ⟨fun _ _ => False, fun _ _ h => h.elim⟩
| n + 1 => ⟨fun x y => Runs (a217 (n217 n).1 (n217 n).2 x) (KOf (fun j => Ev (c217 (n217 n).1 (n217 n).2) j y) y), fun x y h => sysA (cx := x217) follow func217 (h217 (n217 n).1 (n217 n).2 x) (g217 (n217 n).1 (n217 n).2) y h⟩
noncomputable def m217 : Mir prog 217 GVal Int := w217 (fun x y => ∃ n, (n217 n).1 x y) (fun x y h => (n217 h.choose).2 x y h.choose_spec)
abbrev Clo158 : Type := Clo prog ByteArray Bool [.one none] (fun x => [.val (.one (.c (.str x)))]) (fun y => [.one (.c (.bool y))])
noncomputable def clo158 (c : Clo158) := Clo.mir c true (fun _ _ => flatE rfl)
inductive J231 where
| s0 (s_t0 : List ByteArray) (f_t1 : Clo158) (t7 : Int) (t8 : Int)
noncomputable def b231 : Code := f231.body.getD .skip
noncomputable def x231 : Cx J231 Int where
  nt := 19
  rvs := [.tmp 4]
  mh := []
  res := fun y => [.one (.c (.int .i64 y))]
  outs := fun y => []
  path := fun
    | .s0 _ _ _ _ => [0, 1, 0, 1]
  sig := fun
    | .s0 _ _ _ _ => [0, 1, 7, 8]
  snap := fun
    | .s0 s_t0 f_t1 t7 t8 => ⟨[(0, .one (.c (.sl (E.str.L s_t0)))), (1, .one (.c (.fn f_t1.f f_t1.caps))), (7, .one (.c (.int .i64 t7))), (8, .one (.c (.int .i64 t8)))], []⟩
noncomputable def a231 (s_0 : List ByteArray) (f_1 : Clo158) : Cert prog J231 Int :=
 .len E.str s_0 <|
 .jump (.s0 s_0 f_1 (s_0.length : Int) 0) []
noncomputable def c231 : J231 → Cert prog J231 Int
| .s0 s_t0 f_t1 t7 t8 =>
 .ite 9 (decide (t8 < t7))
 (.elem E.str s_t0 t8 fun a1 =>
 .call (clo158 f_t1) a1 fun r2 =>
 .ite 16 r2
 (.ret t8)
 (.jump (.s0 s_t0 f_t1 t7 (IntKind.i64.wrap (t8 + 1))) []))
 (.ret (-1))
theorem h231 (s_0 : List ByteArray) (f_1 : Clo158) : tp prog x231 b231 (a231 s_0 f_1) (ES.init [.val (.one (.c (.sl (E.str.L s_0)))), .val (.one (.c (.fn f_1.f f_1.caps)))]) :=
  of_triv (rs := x231.rs) (snap := x231.snap) (c := a231 s_0 f_1) (by kernel_rfl)
theorem g231 : ∀ j, ck prog x231 b231 c231 j
| .s0 s_t0 f_t1 t7 t8 => of_triv (rs := x231.rs) (snap := x231.snap) (c := c231 (.s0 s_t0 f_t1 t7 t8)) (by kernel_rfl)
noncomputable def m231 : Mir prog 231 ((List ByteArray) × Clo158) Int where
  fs := [.one none, .one none]
  ga := fun x => [.val (.one (.c (.sl (E.str.L x.1)))), .val (.one (.c (.fn x.2.f x.2.caps)))]
  caps := fun x => []
  res := x231.res
  outs := x231.outs
  R := fun x y => Rn c231 (a231 x.1 x.2) y
  ok := fun x y h => sysA (cx := x231) follow func231 (h231 x.1 x.2) (g231) y h
  flat := true
  hflat := fun _ _ => flatE rfl
noncomputable def b200 : Code := f200.body.getD .skip
noncomputable def x200 : Cx Empty Bool where
  nt := 9
  rvs := [.tmp 4]
  mh := []
  res := fun y => [.one (.c (.bool y))]
  outs := fun y => []
  path := nofun
  sig := nofun
  snap := nofun
noncomputable def a200 (s_0 : List ByteArray) (f_1 : Clo158) : Cert prog Empty Bool :=
 .call m231 (s_0, f_1) fun r1 =>
 .ret (decide (0 ≤ r1))
noncomputable def c200 : Empty → Cert prog Empty Bool := nofun
theorem h200 (s_0 : List ByteArray) (f_1 : Clo158) : tp prog x200 b200 (a200 s_0 f_1) (ES.init [.val (.one (.c (.sl (E.str.L s_0)))), .val (.one (.c (.fn f_1.f f_1.caps)))]) :=
  of_triv (rs := x200.rs) (snap := x200.snap) (c := a200 s_0 f_1) (by kernel_rfl)
theorem g200 : ∀ j, ck prog x200 b200 c200 j := nofun
noncomputable def m200 : Mir prog 200 ((List ByteArray) × Clo158) Bool where
  fs := [.one none, .one none]
  ga := fun x => [.val (.one (.c (.sl (E.str.L x.1)))), .val (.one (.c (.fn x.2.f x.2.caps)))]
  caps := fun x => []
  res := x200.res
  outs := x200.outs
  R := fun x y => Rn c200 (a200 x.1 x.2) y
  ok := fun x y h => sysA (cx := x200) follow func200 (h200 x.1 x.2) (g200) y h
  flat := true
  hflat := fun _ _ => flatE rfl
abbrev Clo134 : Type := Clo prog GVal Bool [.agg (List.replicate 5 none)] (fun x => [.val (.agg ((GVal.cs x).map R.c))]) (fun y => [.one (.c (.bool y))])
noncomputable def clo134 (c : Clo134) := Clo.mir c true (fun _ _ => flatE rfl)
inductive J241 where
| s0 (s_t0 : List GVal) (f_t1 : Clo134) (t7 : Int) (t8 : Int)
noncomputable def b241 : Code := f241.body.getD .skip
noncomputable def x241 : Cx J241 Int where
  nt := 19
  rvs := [.tmp 4]
  mh := []
  res := fun y => [.one (.c (.int .i64 y))]
  outs := fun y => []
  path := fun
    | .s0 _ _ _ _ => [0, 1, 0, 1]
  sig := fun
    | .s0 _ _ _ _ => [0, 1, 7, 8]
  snap := fun
    | .s0 s_t0 f_t1 t7 t8 => ⟨[(0, .one (.c (.sl (E.GVal.L s_t0)))), (1, .one (.c (.fn f_t1.f f_t1.caps))), (7, .one (.c (.int .i64 t7))), (8, .one (.c (.int .i64 t8)))], []⟩
noncomputable def a241 (s_0 : List GVal) (f_1 : Clo134) : Cert prog J241 Int :=
 .len E.GVal s_0 <|
 .jump (.s0 s_0 f_1 (s_0.length : Int) 0) []
noncomputable def c241 : J241 → Cert prog J241 Int
| .s0 s_t0 f_t1 t7 t8 =>
 .ite 9 (decide (t8 < t7))
 (.elem E.GVal s_t0 t8 fun a1 =>
 .call (clo134 f_t1) a1 fun r2 =>
 .ite 16 r2
 (.ret t8)
 (.jump (.s0 s_t0 f_t1 t7 (IntKind.i64.wrap (t8 + 1))) []))
 (.ret (-1))
theorem h241 (s_0 : List GVal) (f_1 : Clo134) : tp prog x241 b241 (a241 s_0 f_1) (ES.init [.val (.one (.c (.sl (E.GVal.L s_0)))), .val (.one (.c (.fn f_1.f f_1.caps)))]) :=
  of_triv (rs := x241.rs) (snap := x241.snap) (c := a241 s_0 f_1) (by kernel_rfl)
theorem g241 : ∀ j, ck prog x241 b241 c241 j
| .s0 s_t0 f_t1 t7 t8 => of_triv (rs := x241.rs) (snap := x241.snap) (c := c241 (.s0 s_t0 f_t1 t7 t8)) (by kernel_rfl)
noncomputable def m241 : Mir prog 241 ((List GVal) × Clo134) Int where
  fs := [.one none, .one none]
  ga := fun x => [.val (.one (.c (.sl (E.GVal.L x.1)))), .val (.one (.c (.fn x.2.f x.2.caps)))]
  caps := fun x => []
  res := x241.res
  outs := x241.outs
  R := fun x y => Rn c241 (a241 x.1 x.2) y
  ok := fun x y h => sysA (cx := x241) follow func241 (h241 x.1 x.2) (g241) y h
  flat := true
  hflat := fun _ _ => flatE rfl
noncomputable def b220 : Code := f220.body.getD .skip
noncomputable def x220 : Cx Empty Bool where
  nt := 9
  rvs := [.tmp 4]
  mh := []
  res := fun y => [.one (.c (.bool y))]
  outs := fun y => []
  path := nofun
  sig := nofun
  snap := nofun
noncomputable def a220 (s_0 : List GVal) (f_1 : Clo134) : Cert prog Empty Bool :=
 .call m241 (s_0, f_1) fun r1 =>
 .ret (decide (0 ≤ r1))
noncomputable def c220 : Empty → Cert prog Empty Bool := nofun
theorem h220 (s_0 : List GVal) (f_1 : Clo134) : tp prog x220 b220 (a220 s_0 f_1) (ES.init [.val (.one (.c (.sl (E.GVal.L s_0)))), .val (.one (.c (.fn f_1.f f_1.caps)))]) :=
  of_triv (rs := x220.rs) (snap := x220.snap) (c := a220 s_0 f_1) (by kernel_rfl)
theorem g220 : ∀ j, ck prog x220 b220 c220 j := nofun
noncomputable def m220 : Mir prog 220 ((List GVal) × Clo134) Bool where
  fs := [.one none, .one none]
  ga := fun x => [.val (.one (.c (.sl (E.GVal.L x.1)))), .val (.one (.c (.fn x.2.f x.2.caps)))]
  caps := fun x => []
  res := x220.res
  outs := x220.outs
  R := fun x y => Rn c220 (a220 x.1 x.2) y
  ok := fun x y h => sysA (cx := x220) follow func220 (h220 x.1 x.2) (g220) y h
  flat := true
  hflat := fun _ _ => flatE rfl
noncomputable def b239 : Code := f239.body.getD .skip
noncomputable def x239 : Cx Empty Bool where
  nt := 6
  rvs := [.tmp 2]
  mh := []
  res := fun y => [.one (.c (.bool y))]
  outs := fun y => []
  path := nofun
  sig := nofun
  snap := nofun
noncomputable def a239 (k_0 : ByteArray) : Cert prog Empty Bool :=
 .ret (decide (4096 < (k_0.size : Int)))
noncomputable def c239 : Empty → Cert prog Empty Bool := nofun
theorem h239 (k_0 : ByteArray) : tp prog x239 b239 (a239 k_0) (ES.init [.val (.one (.c (.str k_0)))]) :=
  of_triv (rs := x239.rs) (snap := x239.snap) (c := a239 k_0) (by kernel_rfl)
theorem g239 : ∀ j, ck prog x239 b239 c239 j := nofun
noncomputable def m239 : Mir prog 239 ByteArray Bool where
  fs := [.one none]
  ga := fun x => [.val (.one (.c (.str x)))]
  caps := fun x => []
  res := x239.res
  outs := x239.outs
  R := fun x y => Rn c239 (a239 x) y
  ok := fun x y h => sysA (cx := x239) follow func239 (h239 x) (g239) y h
  flat := true
  hflat := fun _ _ => flatE rfl
abbrev O218 (Q : GVal → Bool → Prop) : Prop := ∀ x y, Q x y → SpecG prog 218 ([.val (.agg ((GVal.cs x).map R.c))] ++ ([] : List C).map fun c => .val (.one (.c c))) [.one (.c (.bool y))] []
noncomputable def w218 (Q : GVal → Bool → Prop) (ok : O218 Q) : Mir prog 218 GVal Bool where
  fs := [.agg (List.replicate 5 none)]
  ga := fun x => [.val (.agg ((GVal.cs x).map R.c))]
  caps := fun x => []
  res := fun y => [.one (.c (.bool y))]
  outs := fun y => []
  R := Q
  ok := ok
  flat := true
  hflat := fun _ _ => flatE rfl
noncomputable def b240 : Code := f240.body.getD .skip
noncomputable def x240 : Cx Empty Bool where
  nt := 6
  rvs := [.tmp 2]
  mh := []
  res := fun y => [.one (.c (.bool y))]
  outs := fun y => []
  path := nofun
  sig := nofun
  snap := nofun
noncomputable def a240 (R218 : GVal → Bool → Prop) (ok218 : O218 R218) (x_0 : GVal) : Cert prog Empty Bool :=
 .call (w218 R218 ok218) x_0 fun r1 =>
 .ret (!r1)
noncomputable def c240 (R218 : GVal → Bool → Prop) (ok218 : O218 R218) : Empty → Cert prog Empty Bool := nofun
theorem h240 (R218 : GVal → Bool → Prop) (ok218 : O218 R218) (x_0 : GVal) : tp prog x240 b240 (a240 R218 ok218 x_0) (ES.init [.val (.agg ((GVal.cs x_0).map R.c))]) :=
  of_triv (rs := x240.rs) (snap := x240.snap) (c := a240 R218 ok218 x_0) (by kernel_rfl)
theorem g240 (R218 : GVal → Bool → Prop) (ok218 : O218 R218) : ∀ j, chkAt prog x240 b240 (x240.path j) ((c240 R218 ok218) j) (x240.snap j).es := nofun
noncomputable def m240 (R218 : GVal → Bool → Prop) (ok218 : O218 R218) : Mir prog 240 GVal Bool where
  fs := [.agg (List.replicate 5 none)]
  ga := fun x => [.val (.agg ((GVal.cs x).map R.c))]
  caps := fun x => []
  res := x240.res
  outs := x240.outs
  R := fun x y => Runs (a240 R218 ok218 x) (KOf (fun j => Ev (c240 R218 ok218) j y) y)
  ok := fun x y h => sysA (cx := x240) follow func240 (h240 R218 ok218 x) (g240 R218 ok218) y h
  flat := true
  hflat := fun _ _ => flatE rfl
noncomputable def b218 : Code := f218.body.getD .skip
noncomputable def x218 : Cx Empty Bool where
  nt := 16
  rvs := [.tmp 2]
  mh := []
  res := fun y => [.one (.c (.bool y))]
  outs := fun y => []
  path := nofun
  sig := nofun
  snap := nofun
noncomputable def a218 (R218 : GVal → Bool → Prop) (ok218 : O218 R218) (v_0 : GVal) : Cert prog Empty Bool :=
 .ite 7 (decide (4096 < (v_0.Text.size : Int)))
 (.ret false)
 (.call m200 (v_0.Keys, (⟨239, [], fun a b => m239.R a b, fun a b h => m239.ok a b h⟩ : Clo158)) fun r1 =>
 .ite 11 r1
 (.ret false)
 (.call m220 (v_0.Items, (⟨240, [], fun a b => (m240 R218 ok218).R a b, fun a b h => (m240 R218 ok218).ok a b h⟩ : Clo134)) fun r2 =>
 .ret (!r2)))
noncomputable def c218 (R218 : GVal → Bool → Prop) (ok218 : O218 R218) : Empty → Cert prog Empty Bool := nofun
theorem h218 (R218 : GVal → Bool → Prop) (ok218 : O218 R218) (v_0 : GVal) : tp prog x218 b218 (a218 R218 ok218 v_0) (ES.init [.val (.agg ((GVal.cs v_0).map R.c))]) :=
  of_triv (rs := x218.rs) (snap := x218.snap) (c := a218 R218 ok218 v_0) (by kernel_rfl)
theorem g218 (R218 : GVal → Bool → Prop) (ok218 : O218 R218) : ∀ j, chkAt prog x218 b218 (x218.path j) ((c218 R218 ok218) j) (x218.snap j).es := nofun
noncomputable def n218 : Nat → {Q : GVal → Bool → Prop // O218 Q}
| 0 => ⟨fun _ _ => False, fun _ _ h => h.elim⟩
| n + 1 => ⟨fun x y => Runs (a218 (n218 n).1 (n218 n).2 x) (KOf (fun j => Ev (c218 (n218 n).1 (n218 n).2) j y) y), fun x y h => sysA (cx := x218) follow func218 (h218 (n218 n).1 (n218 n).2 x) (g218 (n218 n).1 (n218 n).2) y h⟩
noncomputable def m218 : Mir prog 218 GVal Bool := w218 (fun x y => ∃ n, (n218 n).1 x y) (fun x y h => (n218 h.choose).2 x y h.choose_spec)
noncomputable def b183 : Code := f183.body.getD .skip
noncomputable def x183 : Cx Empty Bool where
  nt := 15
  rvs := [.tmp 2]
  mh := []
  res := fun y => [.one (.c (.bool y))]
  outs := fun y => []
  path := nofun
  sig := nofun
  snap := nofun
noncomputable def a183 (v_0 : GVal) : Cert prog Empty Bool :=
 .call m216 v_0 fun r1 =>
 .ite 6 (decide (r1 ≤ 16))
 (.call m217 v_0 fun r2 =>
 .ite 11 (decide (r2 ≤ 1000))
 (.call m218 v_0 fun r3 =>
 .ret r3)
 (.ret false))
 (.ret false)
noncomputable def c183 : Empty → Cert prog Empty Bool := nofun
theorem h183 (v_0 : GVal) : tp prog x183 b183 (a183 v_0) (ES.init [.val (.agg ((GVal.cs v_0).map R.c))]) :=
  of_triv (rs := x183.rs) (snap := x183.snap) (c := a183 v_0) (by kernel_rfl)
theorem g183 : ∀ j, ck prog x183 b183 c183 j := nofun
noncomputable def m183 : Mir prog 183 GVal Bool where
  fs := [.agg (List.replicate 5 none)]
  ga := fun x => [.val (.agg ((GVal.cs x).map R.c))]
  caps := fun x => []
  res := x183.res
  outs := x183.outs
  R := fun x y => Rn c183 (a183 x) y
  ok := fun x y h => sysA (cx := x183) follow func183 (h183 x) (g183) y h
  flat := true
  hflat := fun _ _ => flatE rfl
inductive J219 where
| s0 (l_t0 : List ByteArray) (i_t3 : Int)
noncomputable def b219 : Code := f219.body.getD .skip
noncomputable def x219 : Cx J219 Bool where
  nt := 20
  rvs := [.tmp 2]
  mh := []
  res := fun y => [.one (.c (.bool y))]
  outs := fun y => []
  path := fun
    | .s0 _ _ => [0, 1, 0, 1]
  sig := fun
    | .s0 _ _ => [0, 3]
  snap := fun
    | .s0 l_t0 i_t3 => ⟨[(0, .one (.c (.sl (E.str.L l_t0)))), (3, .one (.c (.int .i64 i_t3)))], []⟩
noncomputable def a219 (l_0 : List ByteArray) : Cert prog J219 Bool :=
 .jump (.s0 l_0 1) []
noncomputable def c219 : J219 → Cert prog J219 Bool
| .s0 l_t0 i_t3 =>
 .len E.str l_t0 <|
 .ite 7 (decide (i_t3 < (l_t0.length : Int)))
 (.elem E.str l_t0 (IntKind.i64.wrap (i_t3 - 1)) fun a1 =>
 .elem E.str l_t0 i_t3 fun a2 =>
 .ite 19 (!strLt a1 a2)
 (.ret false)
 (.jump (.s0 l_t0 (IntKind.i64.wrap (i_t3 + 1))) []))
 (.ret true)
theorem h219 (l_0 : List ByteArray) : tp prog x219 b219 (a219 l_0) (ES.init [.val (.one (.c (.sl (E.str.L l_0))))]) :=
  of_triv (rs := x219.rs) (snap := x219.snap) (c := a219 l_0) (by kernel_rfl)
theorem g219 : ∀ j, ck prog x219 b219 c219 j
| .s0 l_t0 i_t3 => of_triv (rs := x219.rs) (snap := x219.snap) (c := c219 (.s0 l_t0 i_t3)) (by kernel_rfl)
noncomputable def m219 : Mir prog 219 (List ByteArray) Bool where
  fs := [.one none]
  ga := fun x => [.val (.one (.c (.sl (E.str.L x))))]
  caps := fun x => []
  res := x219.res
  outs := x219.outs
  R := fun x y => Rn c219 (a219 x) y
  ok := fun x y h => sysA (cx := x219) follow func219 (h219 x) (g219) y h
  flat := true
  hflat := fun _ _ => flatE rfl
abbrev O184 (Q : (GVal × Bool) → Bool → Prop) : Prop := ∀ x y, Q x y → SpecG prog 184 ([.val (.agg ((GVal.cs x.1).map R.c)), .val (.one (.c (.bool x.2)))] ++ ([] : List C).map fun c => .val (.one (.c c))) [.one (.c (.bool y))] []
noncomputable def w184 (Q : (GVal × Bool) → Bool → Prop) (ok : O184 Q) : Mir prog 184 (GVal × Bool) Bool where
  fs := [.agg (List.replicate 5 none), .one none]
  ga := fun x => [.val (.agg ((GVal.cs x.1).map R.c)), .val (.one (.c (.bool x.2)))]
  caps := fun x => []
  res := fun y => [.one (.c (.bool y))]
  outs := fun y => []
  R := Q
  ok := ok
  flat := true
  hflat := fun _ _ => flatE rfl
noncomputable def b221 : Code := f221.body.getD .skip
noncomputable def x221 : Cx Empty Bool where
  nt := 8
  rvs := [.tmp 3]
  mh := []
  res := fun y => [.one (.c (.bool y))]
  outs := fun y => []
  path := nofun
  sig := nofun
  snap := nofun
noncomputable def a221 (R184 : (GVal × Bool) → Bool → Prop) (ok184 : O184 R184) (x_0 : GVal) (cap0 : Bool) : Cert prog Empty Bool :=
 .call (w184 R184 ok184) (x_0, cap0) fun r1 =>
 .ret (!r1)
noncomputable def c221 (R184 : (GVal × Bool) → Bool → Prop) (ok184 : O184 R184) : Empty → Cert prog Empty Bool := nofun
theorem h221 (R184 : (GVal × Bool) → Bool → Prop) (ok184 : O184 R184) (x_0 : GVal) (cap0 : Bool) : tp prog x221 b221 (a221 R184 ok184 x_0 cap0) (ES.init [.val (.agg ((GVal.cs x_0).map R.c)), .val (.one (.c (.ptr [(.bool cap0)])))]) :=
  of_triv (rs := x221.rs) (snap := x221.snap) (c := a221 R184 ok184 x_0 cap0) (by kernel_rfl)
theorem g221 (R184 : (GVal × Bool) → Bool → Prop) (ok184 : O184 R184) : ∀ j, chkAt prog x221 b221 (x221.path j) ((c221 R184 ok184) j) (x221.snap j).es := nofun
noncomputable def m221 (R184 : (GVal × Bool) → Bool → Prop) (ok184 : O184 R184) : Mir prog 221 (GVal × Bool) Bool where
  fs := [.agg (List.replicate 5 none)]
  ga := fun x => [.val (.agg ((GVal.cs x.1).map R.c))]
  caps := fun x => [(.ptr [(.bool x.2)])]
  res := x221.res
  outs := x221.outs
  R := fun x y => Runs (a221 R184 ok184 x.1 x.2) (KOf (fun j => Ev (c221 R184 ok184) j y) y)
  ok := fun x y h => sysA (cx := x221) follow func221 (h221 R184 ok184 x.1 x.2) (g221 R184 ok184) y h
  flat := true
  hflat := fun _ _ => flatE rfl
inductive J184 where
| s0 (v_t2 : GVal) (futures_t3 : Bool)
noncomputable def b184 : Code := f184.body.getD .skip
noncomputable def x184 : Cx J184 Bool where
  nt := 142
  rvs := [.tmp 4]
  mh := []
  res := fun y => [.one (.c (.bool y))]
  outs := fun y => []
  path := fun
    | .s0 _ _ => [1, 1, 1, 1, 1, 1]
  sig := fun
    | .s0 _ _ => [2, 3]
  snap := fun
    | .s0 v_t2 futures_t3 => ⟨[(2, .one (.ptr 0 1 0)), (3, .one (.ptr 1 1 0))], [((0, 1), .box ((GVal.cs v_t2).map A.c)), ((1, 1), .box [(.c (.bool futures_t3))])]⟩
noncomputable def a184 (R184 : (GVal × Bool) → Bool → Prop) (ok184 : O184 R184) (v_0 : GVal) (futures_1 : Bool) : Cert prog J184 Bool :=
 .len E.GVal v_0.Items <|
 .len E.str v_0.Keys <|
 .ite 25 (v_0.Kind == 0)
 (.ite 29 (!(v_0.Num != 0))
 (.ite 33 (!(!strEq v_0.Text eB))
 (.ite 37 (!(decide (0 < (v_0.Items.length : Int))))
 (.ret (!(decide (0 < (v_0.Keys.length : Int)))))
 (.ret false))
 (.ret false))
 (.ret false))
 (.ite 41 (v_0.Kind == 1)
 (.ite 46 (v_0.Num == 0)
 (.ite 55 (!(!strEq v_0.Text eB))
 (.ite 59 (!(decide (0 < (v_0.Items.length : Int))))
 (.ret (!(decide (0 < (v_0.Keys.length : Int)))))
 (.ret false))
 (.ret false))
 (.ite 51 (v_0.Num == 1)
 (.ite 55 (!(!strEq v_0.Text eB))
 (.ite 59 (!(decide (0 < (v_0.Items.length : Int))))
 (.ret (!(decide (0 < (v_0.Keys.length : Int)))))
 (.ret false))
 (.ret false))
 (.ret false)))
 (.ite 63 (v_0.Kind == 2)
 (.ite 67 (!(!strEq v_0.Text eB))
 (.ite 71 (!(decide (0 < (v_0.Items.length : Int))))
 (.ret (!(decide (0 < (v_0.Keys.length : Int)))))
 (.ret false))
 (.ret false))
 (.ite 75 (v_0.Kind == 6)
 (.ite 78 futures_1
 (.ite 83 (decide (0 ≤ v_0.Num))
 (.ite 87 (!(!strEq v_0.Text eB))
 (.ite 91 (!(decide (0 < (v_0.Items.length : Int))))
 (.ret (!(decide (0 < (v_0.Keys.length : Int)))))
 (.ret false))
 (.ret false))
 (.ret false))
 (.ret false))
 (.ite 95 (v_0.Kind == 3)
 (.ite 99 (!(v_0.Num != 0))
 (.ite 103 (!(decide (0 < (v_0.Items.length : Int))))
 (.ret (!(decide (0 < (v_0.Keys.length : Int)))))
 (.ret false))
 (.ret false))
 (.ite 107 (v_0.Kind == 4)
 (.ite 110 (v_0.Num != 0)
 (.ret false)
 (.ite 113 (!strEq v_0.Text eB)
 (.ret false)
 (.ite 115 (decide (0 < (v_0.Keys.length : Int)))
 (.ret false)
 (.jump (.s0 v_0 futures_1) [(2000, 1), (3000, 1)]))))
 (.ite 116 (v_0.Kind == 5)
 (.ite 119 (v_0.Num != 0)
 (.ret false)
 (.ite 122 (!strEq v_0.Text eB)
 (.ret false)
 (.len E.str v_0.Keys <|
 .len E.GVal v_0.Items <|
 .ite 131 ((v_0.Keys.length : Int) != (v_0.Items.length : Int))
 (.ret false)
 (.call m219 v_0.Keys fun r1 =>
 .ite 136 (!r1)
 (.ret false)
 (.jump (.s0 v_0 futures_1) [(2000, 1), (3000, 1)])))))
 (.ret false)))))))
noncomputable def c184 (R184 : (GVal × Bool) → Bool → Prop) (ok184 : O184 R184) : J184 → Cert prog J184 Bool
| .s0 v_t2 futures_t3 =>
 .call m220 (v_t2.Items, (⟨221, [(.ptr [(.bool futures_t3)])], fun a b => (m221 R184 ok184).R (a, futures_t3) b, fun a b h => (m221 R184 ok184).ok (a, futures_t3) b h⟩ : Clo134)) fun r2 =>
 .ret (!r2)
theorem h184 (R184 : (GVal × Bool) → Bool → Prop) (ok184 : O184 R184) (v_0 : GVal) (futures_1 : Bool) : tp prog x184 b184 (a184 R184 ok184 v_0 futures_1) (ES.init [.val (.agg ((GVal.cs v_0).map R.c)), .val (.one (.c (.bool futures_1)))]) :=
  of_triv (rs := x184.rs) (snap := x184.snap) (c := a184 R184 ok184 v_0 futures_1) (by kernel_rfl)
theorem g184 (R184 : (GVal × Bool) → Bool → Prop) (ok184 : O184 R184) : ∀ j, chkAt prog x184 b184 (x184.path j) ((c184 R184 ok184) j) (x184.snap j).es
| .s0 v_t2 futures_t3 => of_triv (rs := x184.rs) (snap := x184.snap) (c := c184 R184 ok184 (.s0 v_t2 futures_t3)) (by kernel_rfl)
noncomputable def n184 : Nat → {Q : (GVal × Bool) → Bool → Prop // O184 Q}
| 0 => ⟨fun _ _ => False, fun _ _ h => h.elim⟩
| n + 1 => ⟨fun x y => Runs (a184 (n184 n).1 (n184 n).2 x.1 x.2) (KOf (fun j => Ev (c184 (n184 n).1 (n184 n).2) j y) y), fun x y h => sysA (cx := x184) follow func184 (h184 (n184 n).1 (n184 n).2 x.1 x.2) (g184 (n184 n).1 (n184 n).2) y h⟩
noncomputable def m184 : Mir prog 184 (GVal × Bool) Bool := w184 (fun x y => ∃ n, (n184 n).1 x y) (fun x y h => (n184 h.choose).2 x y h.choose_spec)
noncomputable def b119 : Code := f119.body.getD .skip
noncomputable def x119 : Cx Empty Bool where
  nt := 9
  rvs := [.tmp 2]
  mh := []
  res := fun y => [.one (.c (.bool y))]
  outs := fun y => []
  path := nofun
  sig := nofun
  snap := nofun
noncomputable def a119 (v_0 : GVal) : Cert prog Empty Bool :=
 .call m183 v_0 fun r1 =>
 .ite 5 r1
 (.call m184 (v_0, false) fun r2 =>
 .ret r2)
 (.ret false)
noncomputable def c119 : Empty → Cert prog Empty Bool := nofun
theorem h119 (v_0 : GVal) : tp prog x119 b119 (a119 v_0) (ES.init [.val (.agg ((GVal.cs v_0).map R.c))]) :=
  of_triv (rs := x119.rs) (snap := x119.snap) (c := a119 v_0) (by kernel_rfl)
theorem g119 : ∀ j, ck prog x119 b119 c119 j := nofun
noncomputable def m119 : Mir prog 119 GVal Bool where
  fs := [.agg (List.replicate 5 none)]
  ga := fun x => [.val (.agg ((GVal.cs x).map R.c))]
  caps := fun x => []
  res := x119.res
  outs := x119.outs
  R := fun x y => Rn c119 (a119 x) y
  ok := fun x y h => sysA (cx := x119) follow func119 (h119 x) (g119) y h
  flat := true
  hflat := fun _ _ => flatE rfl
inductive J90 where
| s0 (s1_t0 : List ByteArray) (s2_t1 : List ByteArray) (t12 : Int) (t13 : Int)
noncomputable def b90 : Code := f90.body.getD .skip
noncomputable def x90 : Cx J90 Bool where
  nt := 26
  rvs := [.tmp 4]
  mh := []
  res := fun y => [.one (.c (.bool y))]
  outs := fun y => []
  path := fun
    | .s0 _ _ _ _ => [0, 1, 0, 1, 1]
  sig := fun
    | .s0 _ _ _ _ => [0, 1, 12, 13]
  snap := fun
    | .s0 s1_t0 s2_t1 t12 t13 => ⟨[(0, .one (.c (.sl (E.str.L s1_t0)))), (1, .one (.c (.sl (E.str.L s2_t1)))), (12, .one (.c (.int .i64 t12))), (13, .one (.c (.int .i64 t13)))], []⟩
noncomputable def a90 (s1_0 : List ByteArray) (s2_1 : List ByteArray) : Cert prog J90 Bool :=
 .len E.str s1_0 <|
 .len E.str s2_1 <|
 .ite 10 ((s1_0.length : Int) != (s2_1.length : Int))
 (.ret false)
 (.len E.str s1_0 <|
 .jump (.s0 s1_0 s2_1 (s1_0.length : Int) 0) [])
noncomputable def c90 : J90 → Cert prog J90 Bool
| .s0 s1_t0 s2_t1 t12 t13 =>
 .ite 14 (decide (t13 < t12))
 (.elem E.str s1_t0 t13 fun a1 =>
 .elem E.str s2_t1 t13 fun a2 =>
 .ite 24 (!strEq a1 a2)
 (.ret false)
 (.jump (.s0 s1_t0 s2_t1 t12 (IntKind.i64.wrap (t13 + 1))) []))
 (.ret true)
theorem h90 (s1_0 : List ByteArray) (s2_1 : List ByteArray) : tp prog x90 b90 (a90 s1_0 s2_1) (ES.init [.val (.one (.c (.sl (E.str.L s1_0)))), .val (.one (.c (.sl (E.str.L s2_1))))]) :=
  of_triv (rs := x90.rs) (snap := x90.snap) (c := a90 s1_0 s2_1) (by kernel_rfl)
theorem g90 : ∀ j, ck prog x90 b90 c90 j
| .s0 s1_t0 s2_t1 t12 t13 => of_triv (rs := x90.rs) (snap := x90.snap) (c := c90 (.s0 s1_t0 s2_t1 t12 t13)) (by kernel_rfl)
noncomputable def m90 : Mir prog 90 ((List ByteArray) × (List ByteArray)) Bool where
  fs := [.one none, .one none]
  ga := fun x => [.val (.one (.c (.sl (E.str.L x.1)))), .val (.one (.c (.sl (E.str.L x.2))))]
  caps := fun x => []
  res := x90.res
  outs := x90.outs
  R := fun x y => Rn c90 (a90 x.1 x.2) y
  ok := fun x y h => sysA (cx := x90) follow func90 (h90 x.1 x.2) (g90) y h
  flat := true
  hflat := fun _ _ => flatE rfl
abbrev Clo97 : Type := Clo prog (GVal × GVal) Bool [.agg (List.replicate 5 none), .agg (List.replicate 5 none)] (fun x => [.val (.agg ((GVal.cs x.1).map R.c)), .val (.agg ((GVal.cs x.2).map R.c))]) (fun y => [.one (.c (.bool y))])
noncomputable def clo97 (c : Clo97) := Clo.mir c true (fun _ _ => flatE rfl)
inductive J142 where
| s0 (s2_t1 : List GVal) (eq_t2 : Clo97) (t15 : List GVal) (t16 : Int) (t17 : Int)
noncomputable def b142 : Code := f142.body.getD .skip
noncomputable def x142 : Cx J142 Bool where
  nt := 32
  rvs := [.tmp 6]
  mh := []
  res := fun y => [.one (.c (.bool y))]
  outs := fun y => []
  path := fun
    | .s0 _ _ _ _ _ => [0, 1, 0, 1, 1]
  sig := fun
    | .s0 _ _ _ _ _ => [1, 2, 15, 16, 17]
  snap := fun
    | .s0 s2_t1 eq_t2 t15 t16 t17 => ⟨[(1, .one (.c (.sl (E.GVal.L s2_t1)))), (2, .one (.c (.fn eq_t2.f eq_t2.caps))), (15, .one (.c (.sl (E.GVal.L t15)))), (16, .one (.c (.int .i64 t16))), (17, .one (.c (.int .i64 t17)))], []⟩
noncomputable def a142 (s1_0 : List GVal) (s2_1 : List GVal) (eq_2 : Clo97) : Cert prog J142 Bool :=
 .len E.GVal s1_0 <|
 .len E.GVal s2_1 <|
 .ite 14 ((s1_0.length : Int) != (s2_1.length : Int))
 (.ret false)
 (.len E.GVal s1_0 <|
 .jump (.s0 s2_1 eq_2 s1_0 (s1_0.length : Int) 0) [])
noncomputable def c142 : J142 → Cert prog J142 Bool
| .s0 s2_t1 eq_t2 t15 t16 t17 =>
 .ite 18 (decide (t17 < t16))
 (.elem E.GVal t15 t17 fun a1 =>
 .elem E.GVal s2_t1 t17 fun a2 =>
 .call (clo97 eq_t2) (a1, a2) fun r3 =>
 .ite 30 (!r3)
 (.ret false)
 (.jump (.s0 s2_t1 eq_t2 t15 t16 (IntKind.i64.wrap (t17 + 1))) []))
 (.ret true)
theorem h142 (s1_0 : List GVal) (s2_1 : List GVal) (eq_2 : Clo97) : tp prog x142 b142 (a142 s1_0 s2_1 eq_2) (ES.init [.val (.one (.c (.sl (E.GVal.L s1_0)))), .val (.one (.c (.sl (E.GVal.L s2_1)))), .val (.one (.c (.fn eq_2.f eq_2.caps)))]) :=
  of_triv (rs := x142.rs) (snap := x142.snap) (c := a142 s1_0 s2_1 eq_2) (by kernel_rfl)
theorem g142 : ∀ j, ck prog x142 b142 c142 j
| .s0 s2_t1 eq_t2 t15 t16 t17 => of_triv (rs := x142.rs) (snap := x142.snap) (c := c142 (.s0 s2_t1 eq_t2 t15 t16 t17)) (by kernel_rfl)
noncomputable def m142 : Mir prog 142 ((List GVal) × (List GVal) × Clo97) Bool where
  fs := [.one none, .one none, .one none]
  ga := fun x => [.val (.one (.c (.sl (E.GVal.L x.1)))), .val (.one (.c (.sl (E.GVal.L x.2.1)))), .val (.one (.c (.fn x.2.2.f x.2.2.caps)))]
  caps := fun x => []
  res := x142.res
  outs := x142.outs
  R := fun x y => Rn c142 (a142 x.1 x.2.1 x.2.2) y
  ok := fun x y h => sysA (cx := x142) follow func142 (h142 x.1 x.2.1 x.2.2) (g142) y h
  flat := true
  hflat := fun _ _ => flatE rfl
abbrev O83 (Q : (GVal × GVal) → Bool → Prop) : Prop := ∀ x y, Q x y → SpecG prog 83 ([.val (.agg ((GVal.cs x.1).map R.c)), .val (.agg ((GVal.cs x.2).map R.c))] ++ ([] : List C).map fun c => .val (.one (.c c))) [.one (.c (.bool y))] []
noncomputable def w83 (Q : (GVal × GVal) → Bool → Prop) (ok : O83 Q) : Mir prog 83 (GVal × GVal) Bool where
  fs := [.agg (List.replicate 5 none), .agg (List.replicate 5 none)]
  ga := fun x => [.val (.agg ((GVal.cs x.1).map R.c)), .val (.agg ((GVal.cs x.2).map R.c))]
  caps := fun x => []
  res := fun y => [.one (.c (.bool y))]
  outs := fun y => []
  R := Q
  ok := ok
  flat := true
  hflat := fun _ _ => flatE rfl
noncomputable def b83 : Code := f83.body.getD .skip
noncomputable def x83 : Cx Empty Bool where
  nt := 38
  rvs := [.tmp 4]
  mh := []
  res := fun y => [.one (.c (.bool y))]
  outs := fun y => []
  path := nofun
  sig := nofun
  snap := nofun
noncomputable def a83 (R83 : (GVal × GVal) → Bool → Prop) (ok83 : O83 R83) (a_0 : GVal) (b_1 : GVal) : Cert prog Empty Bool :=
 .ite 10 (a_0.Kind == b_1.Kind)
 (.ite 17 (a_0.Num == b_1.Num)
 (.ite 24 (strEq a_0.Text b_1.Text)
 (.call m90 (a_0.Keys, b_1.Keys) fun r1 =>
 .ite 31 r1
 (.call m142 (a_0.Items, b_1.Items, (⟨83, [], fun a b => (w83 R83 ok83).R (a.1, a.2) b, fun a b h => (w83 R83 ok83).ok (a.1, a.2) b h⟩ : Clo97)) fun r2 =>
 .ret r2)
 (.ret false))
 (.ret false))
 (.ret false))
 (.ret false)
noncomputable def c83 (R83 : (GVal × GVal) → Bool → Prop) (ok83 : O83 R83) : Empty → Cert prog Empty Bool := nofun
theorem h83 (R83 : (GVal × GVal) → Bool → Prop) (ok83 : O83 R83) (a_0 : GVal) (b_1 : GVal) : tp prog x83 b83 (a83 R83 ok83 a_0 b_1) (ES.init [.val (.agg ((GVal.cs a_0).map R.c)), .val (.agg ((GVal.cs b_1).map R.c))]) :=
  of_triv (rs := x83.rs) (snap := x83.snap) (c := a83 R83 ok83 a_0 b_1) (by kernel_rfl)
theorem g83 (R83 : (GVal × GVal) → Bool → Prop) (ok83 : O83 R83) : ∀ j, chkAt prog x83 b83 (x83.path j) ((c83 R83 ok83) j) (x83.snap j).es := nofun
noncomputable def n83 : Nat → {Q : (GVal × GVal) → Bool → Prop // O83 Q}
| 0 => ⟨fun _ _ => False, fun _ _ h => h.elim⟩
| n + 1 => ⟨fun x y => Runs (a83 (n83 n).1 (n83 n).2 x.1 x.2) (KOf (fun j => Ev (c83 (n83 n).1 (n83 n).2) j y) y), fun x y h => sysA (cx := x83) follow func83 (h83 (n83 n).1 (n83 n).2 x.1 x.2) (g83 (n83 n).1 (n83 n).2) y h⟩
noncomputable def m83 : Mir prog 83 (GVal × GVal) Bool := w83 (fun x y => ∃ n, (n83 n).1 x y) (fun x y h => (n83 h.choose).2 x y h.choose_spec)
noncomputable def b130 : Code := f130.body.getD .skip
noncomputable def x130 : Cx Empty (List ByteArray) where
  nt := 8
  rvs := [.tmp 2]
  mh := []
  res := fun y => [.one (.own 9 1 (E.str.L y))]
  outs := fun y => []
  path := nofun
  sig := nofun
  snap := nofun
noncomputable def a130 (s_0 : List ByteArray) : Cert prog Empty (List ByteArray) :=
 .nilt E.str s_0 fun b1 =>
 .ite 4 b1
 (.ret [])
 (.bld E.str [] <|
 .app E.str 16 [] s_0 <|
 .ret ([] ++ s_0))
noncomputable def c130 : Empty → Cert prog Empty (List ByteArray) := nofun
theorem h130 (s_0 : List ByteArray) : tp prog x130 b130 (a130 s_0) (ES.init [.val (.one (.c (.sl (E.str.L s_0))))]) :=
  of_triv (rs := x130.rs) (snap := x130.snap) (c := a130 s_0) (by kernel_rfl)
theorem g130 : ∀ j, ck prog x130 b130 c130 j := nofun
noncomputable def m130 : Mir prog 130 (List ByteArray) (List ByteArray) where
  fs := [.one none]
  ga := fun x => [.val (.one (.c (.sl (E.str.L x))))]
  caps := fun x => []
  res := x130.res
  outs := x130.outs
  R := fun x y => Rn c130 (a130 x) y
  ok := fun x y h => sysA (cx := x130) follow func130 (h130 x) (g130) y h
  flat := false
  hflat := nofun
abbrev O117 (Q : GVal → GVal → Prop) : Prop := ∀ x y, Q x y → SpecG prog 117 ([.val (.agg ((GVal.cs x).map R.c))] ++ ([] : List C).map fun c => .val (.one (.c c))) [.agg ((((GVal.cs y).map R.c).set 3 (.own 28 5 (E.GVal.L y.Items))).set 4 (.own 9 1 (E.str.L y.Keys)))] []
noncomputable def w117 (Q : GVal → GVal → Prop) (ok : O117 Q) : Mir prog 117 GVal GVal where
  fs := [.agg (List.replicate 5 none)]
  ga := fun x => [.val (.agg ((GVal.cs x).map R.c))]
  caps := fun x => []
  res := fun y => [.agg ((((GVal.cs y).map R.c).set 3 (.own 28 5 (E.GVal.L y.Items))).set 4 (.own 9 1 (E.str.L y.Keys)))]
  outs := fun y => []
  R := Q
  ok := ok
  flat := false
  hflat := nofun
inductive J182 where
| s0 (out_t3 : List GVal) (t6 : List GVal) (t7 : Int) (t8 : Int)
noncomputable def b182 : Code := f182.body.getD .skip
noncomputable def x182 : Cx J182 (List GVal) where
  nt := 19
  rvs := [.tmp 2]
  mh := []
  res := fun y => [.one (.own 28 5 (E.GVal.L y))]
  outs := fun y => []
  path := fun
    | .s0 _ _ _ _ => [0, 1, 0, 1, 1]
  sig := fun
    | .s0 _ _ _ _ => [3, 6, 7, 8]
  snap := fun
    | .s0 out_t3 t6 t7 t8 => ⟨[(3, .one (.own 0 1)), (6, .one (.c (.sl (E.GVal.L t6)))), (7, .one (.c (.int .i64 t7))), (8, .one (.c (.int .i64 t8)))], [((0, 1), .arr 28 5 (E.GVal.L out_t3))]⟩
noncomputable def a182 (R117 : GVal → GVal → Prop) (ok117 : O117 R117) (l_0 : List GVal) : Cert prog J182 (List GVal) :=
 .len E.GVal l_0 <|
 .adoptT 3 28 5 <|
 .jump (.s0 [] l_0 (l_0.length : Int) 0) [(3999, 1)]
noncomputable def c182 (R117 : GVal → GVal → Prop) (ok117 : O117 R117) : J182 → Cert prog J182 (List GVal)
| .s0 out_t3 t6 t7 t8 =>
 .ite 9 (decide (t8 < t7))
 (.elem E.GVal t6 t8 fun a1 =>
 .call (w117 R117 ok117) a1 fun r2 =>
 .bld E.GVal [r2] <|
 .app E.GVal 80 out_t3 [r2] <|
 .jump (.s0 (out_t3 ++ [r2]) t6 t7 (IntKind.i64.wrap (t8 + 1))) [(16000, 2)])
 (.ret out_t3)
theorem h182 (R117 : GVal → GVal → Prop) (ok117 : O117 R117) (l_0 : List GVal) : tp prog x182 b182 (a182 R117 ok117 l_0) (ES.init [.val (.one (.c (.sl (E.GVal.L l_0))))]) :=
  of_triv (rs := x182.rs) (snap := x182.snap) (c := a182 R117 ok117 l_0) (by kernel_rfl)
theorem g182 (R117 : GVal → GVal → Prop) (ok117 : O117 R117) : ∀ j, chkAt prog x182 b182 (x182.path j) ((c182 R117 ok117) j) (x182.snap j).es
| .s0 out_t3 t6 t7 t8 => of_triv (rs := x182.rs) (snap := x182.snap) (c := c182 R117 ok117 (.s0 out_t3 t6 t7 t8)) (by kernel_rfl)
noncomputable def m182 (R117 : GVal → GVal → Prop) (ok117 : O117 R117) : Mir prog 182 (List GVal) (List GVal) where
  fs := [.one none]
  ga := fun x => [.val (.one (.c (.sl (E.GVal.L x))))]
  caps := fun x => []
  res := x182.res
  outs := x182.outs
  R := fun x y => Runs (a182 R117 ok117 x) (KOf (fun j => Ev (c182 R117 ok117) j y) y)
  ok := fun x y h => sysA (cx := x182) follow func182 (h182 R117 ok117 x) (g182 R117 ok117) y h
  flat := false
  hflat := nofun
noncomputable def b117 : Code := f117.body.getD .skip
noncomputable def x117 : Cx Empty GVal where
  nt := 12
  rvs := [.cell 2 28]
  mh := []
  res := fun y => [.agg ((((GVal.cs y).map R.c).set 3 (.own 28 5 (E.GVal.L y.Items))).set 4 (.own 9 1 (E.str.L y.Keys)))]
  outs := fun y => []
  path := nofun
  sig := nofun
  snap := nofun
noncomputable def a117 (R117 : GVal → GVal → Prop) (ok117 : O117 R117) (v_0 : GVal) : Cert prog Empty GVal :=
 .call (m182 R117 ok117) v_0.Items fun r1 =>
 .call m130 v_0.Keys fun r2 =>
 .ret (GVal.mk v_0.Kind v_0.Num v_0.Text r1 r2)
noncomputable def c117 (R117 : GVal → GVal → Prop) (ok117 : O117 R117) : Empty → Cert prog Empty GVal := nofun
theorem h117 (R117 : GVal → GVal → Prop) (ok117 : O117 R117) (v_0 : GVal) : tp prog x117 b117 (a117 R117 ok117 v_0) (ES.init [.val (.agg ((GVal.cs v_0).map R.c))]) :=
  of_triv (rs := x117.rs) (snap := x117.snap) (c := a117 R117 ok117 v_0) (by kernel_rfl)
theorem g117 (R117 : GVal → GVal → Prop) (ok117 : O117 R117) : ∀ j, chkAt prog x117 b117 (x117.path j) ((c117 R117 ok117) j) (x117.snap j).es := nofun
noncomputable def n117 : Nat → {Q : GVal → GVal → Prop // O117 Q}
| 0 => ⟨fun _ _ => False, fun _ _ h => h.elim⟩
| n + 1 => ⟨fun x y => Runs (a117 (n117 n).1 (n117 n).2 x) (KOf (fun j => Ev (c117 (n117 n).1 (n117 n).2) j y) y), fun x y h => sysA (cx := x117) follow func117 (h117 (n117 n).1 (n117 n).2 x) (g117 (n117 n).1 (n117 n).2) y h⟩
noncomputable def m117 : Mir prog 117 GVal GVal := w117 (fun x y => ∃ n, (n117 n).1 x y) (fun x y h => (n117 h.choose).2 x y h.choose_spec)
noncomputable def b202 : Code := f202.body.getD .skip
noncomputable def x202 : Cx Empty Bool where
  nt := 21
  rvs := [.tmp 2]
  mh := []
  res := fun y => [.one (.c (.bool y))]
  outs := fun y => []
  path := nofun
  sig := nofun
  snap := nofun
noncomputable def a202 (c_0 : Int) : Cert prog Empty Bool :=
 .ite 5 (decide (97 ≤ c_0))
 (.ite 9 (decide (c_0 ≤ 122))
 (.ret true)
 (.ite 12 (decide (65 ≤ c_0))
 (.ite 17 (decide (c_0 ≤ 90))
 (.ret true)
 (.ret (c_0 == 95)))
 (.ret (c_0 == 95))))
 (.ite 12 (decide (65 ≤ c_0))
 (.ite 17 (decide (c_0 ≤ 90))
 (.ret true)
 (.ret (c_0 == 95)))
 (.ret (c_0 == 95)))
noncomputable def c202 : Empty → Cert prog Empty Bool := nofun
theorem h202 (c_0 : Int) : tp prog x202 b202 (a202 c_0) (ES.init [.val (.one (.c (.int .u8 c_0)))]) :=
  of_triv (rs := x202.rs) (snap := x202.snap) (c := a202 c_0) (by kernel_rfl)
theorem g202 : ∀ j, ck prog x202 b202 c202 j := nofun
noncomputable def m202 : Mir prog 202 Int Bool where
  fs := [.one none]
  ga := fun x => [.val (.one (.c (.int .u8 x)))]
  caps := fun x => []
  res := x202.res
  outs := x202.outs
  R := fun x y => Rn c202 (a202 x) y
  ok := fun x y h => sysA (cx := x202) follow func202 (h202 x) (g202) y h
  flat := true
  hflat := fun _ _ => flatE rfl
inductive J151 where
| s0 (s_t0 : ByteArray) (t12 : Int) (t13 : Int)
noncomputable def b151 : Code := f151.body.getD .skip
noncomputable def x151 : Cx J151 Bool where
  nt := 38
  rvs := [.tmp 2]
  mh := []
  res := fun y => [.one (.c (.bool y))]
  outs := fun y => []
  path := fun
    | .s0 _ _ _ => [0, 1, 0, 1, 1]
  sig := fun
    | .s0 _ _ _ => [0, 12, 13]
  snap := fun
    | .s0 s_t0 t12 t13 => ⟨[(0, .one (.c (.str s_t0))), (12, .one (.c (.int .i64 t12))), (13, .one (.c (.int .i64 t13)))], []⟩
noncomputable def a151 (s_0 : ByteArray) : Cert prog J151 Bool :=
 .ite 6 (strEq s_0 eB)
 (.ret false)
 (.ite 10 (decide (64 < (s_0.size : Int)))
 (.ret false)
 (.jump (.s0 s_0 (s_0.size : Int) 0) []))
noncomputable def c151 : J151 → Cert prog J151 Bool
| .s0 s_t0 t12 t13 =>
 .ite 14 (decide (t13 < t12))
 (.byte s_t0 t13 <|
 .call m202 (byteAt s_t0 t13.toNat) fun r1 =>
 .ite 21 (!r1)
 (.ite 24 (t13 == 0)
 (.ret false)
 (.byte s_t0 t13 <|
 .ite 30 (decide ((byteAt s_t0 t13.toNat) < 48))
 (.ret false)
 (.byte s_t0 t13 <|
 .ite 36 (decide (57 < (byteAt s_t0 t13.toNat)))
 (.ret false)
 (.jump (.s0 s_t0 t12 (IntKind.i64.wrap (t13 + 1))) []))))
 (.jump (.s0 s_t0 t12 (IntKind.i64.wrap (t13 + 1))) []))
 (.ret true)
theorem h151 (s_0 : ByteArray) : tp prog x151 b151 (a151 s_0) (ES.init [.val (.one (.c (.str s_0)))]) :=
  of_triv (rs := x151.rs) (snap := x151.snap) (c := a151 s_0) (by kernel_rfl)
theorem g151 : ∀ j, ck prog x151 b151 c151 j
| .s0 s_t0 t12 t13 => of_triv (rs := x151.rs) (snap := x151.snap) (c := c151 (.s0 s_t0 t12 t13)) (by kernel_rfl)
noncomputable def m151 : Mir prog 151 ByteArray Bool where
  fs := [.one none]
  ga := fun x => [.val (.one (.c (.str x)))]
  caps := fun x => []
  res := x151.res
  outs := x151.outs
  R := fun x y => Rn c151 (a151 x) y
  ok := fun x y h => sysA (cx := x151) follow func151 (h151 x) (g151) y h
  flat := true
  hflat := fun _ _ => flatE rfl
end Tryz
end Go.Proofs
end
noncomputable section
set_option maxRecDepth 4000
namespace Go.AV.U
open Go
section
variable {P : Program} {J Y : Type}
theorem run_idx {α : Type} {E : Enc α} {xs : List α} {i : Nat} {k : Cert P J Y} {K : J ⊕ Y → Prop} (h : i < xs.length) (hk : Runs k K) : Runs (.idx E xs (i : Int) k) K := ⟨Int.natCast_nonneg i, h, hk⟩
theorem run_eget {α : Type} {E : Enc α} {xs : List α} {i : Nat} {x : α} {k : α → Cert P J Y} {K : J ⊕ Y → Prop} (h : i < xs.length) (hx : xs[i] = x) (hk : Runs (k x) K) : Runs (.eget E xs ((i : Int)).toNat k) K := by
  subst hx; exact ⟨h, hk⟩
theorem run_eset {α : Type} {E : Enc α} {xs : List α} {i : Nat} {f : α → α} {k : Cert P J Y} {K : J ⊕ Y → Prop} (h : i < xs.length) (hk : Runs k K) : Runs (.eset E xs ((i : Int)).toNat f k) K := ⟨h, hk⟩
theorem run_frz {h v : Nat} {k : Cert P J Y} {K : J ⊕ Y → Prop} (hk : Runs k K) : Runs (.frz h v k) K := hk
theorem run_frzo {d h v : Nat} {k : Cert P J Y} {K : J ⊕ Y → Prop} (hk : Runs k K) : Runs (.frzo d h v k) K := hk
theorem run_adB {h v i E sz : Nat} {k : Cert P J Y} {K : J ⊕ Y → Prop} (hk : Runs k K) : Runs (.adoptB h v i E sz k) K := hk
theorem run_unby {l : List Int} {k : Cert P J Y} {K : J ⊕ Y → Prop} (hk : Runs k K) : Runs (.unby l k) K := hk
theorem run_dvd {b : Int} {k : Cert P J Y} {K : J ⊕ Y → Prop} (h : b ≠ 0) (hk : Runs k K) : Runs (.dvd b k) K := ⟨h, hk⟩
theorem run_cat {a b : ByteArray} {k : Cert P J Y} {K : J ⊕ Y → Prop} (h : a.size + b.size ≤ maxLen) (hk : Runs k K) : Runs (.cat a b k) K := ⟨h, hk⟩
theorem run_elemD {α : Type} [Inhabited α] {E : Enc α} {xs : List α} {i : Int} {k : α → Cert P J Y} {K : J ⊕ Y → Prop} (h : 0 ≤ i ∧ i.toNat < xs.length) (hk : Runs (k (xs.getD i.toNat default)) K) : Runs (.elem E xs i k) K :=
  ⟨h.1, h.2, by rw [List.getD_eq_getElem?_getD, List.getElem?_eq_getElem h.2] at hk; exact hk⟩
theorem run_cut {α : Type} {E : Enc α} {xs : List α} {l h : Int} {k : Cert P J Y} {K : J ⊕ Y → Prop} (h1 : 0 ≤ l ∧ l ≤ h ∧ h ≤ (xs.length : Int)) (hk : Runs k K) : Runs (.cut E xs l h k) K := ⟨h1, hk⟩
end
end Go.AV.U
namespace Go.AV.U
open Go
attribute [local irreducible] Runs
section
variable {P : Program} {J : Type}
abbrev KE {P : Program} {J Y : Type} (cert : J → Cert P J Y) (y : Y) : J ⊕ Y → Prop := KOf (fun j => Ev cert j y) y
theorem ke_ret {Y : Type} {cert : J → Cert P J Y} {y z : Y} (h : z = y) : Runs (P := P) (.ret z) (KE cert y) := run_ret h
theorem ke_jump {Y : Type} {cert : J → Cert P J Y} {y : Y} {j : J} {r : List (Nat × Nat)} (h : Ev cert j y) : Runs (P := P) (.jump j r) (KE cert y) := run_jump h
theorem and_t {cert : J → Cert P J Bool} {t : Nat} {b r : Bool} {c : Cert P J Bool} (h : b = true → Runs c (KE cert r)) : Runs (.ite t b c (.ret false)) (KE cert (b && r)) := by
  cases b
  · exact run_f rfl (ke_ret rfl)
  · exact run_t rfl (h rfl)
theorem and_f {cert : J → Cert P J Bool} {t : Nat} {b r : Bool} {c : Cert P J Bool} (h : b = true → Runs c (KE cert r)) : Runs (.ite t (!b) (.ret false) c) (KE cert (b && r)) := by
  cases b
  · exact run_t rfl (ke_ret rfl)
  · exact run_f rfl (h rfl)
theorem and_c {cert : J → Cert P J Bool} {f : FuncId} {A : Type} {M : Mir P f A Bool} {x : A} {t : Nat} {b r : Bool} {c : Cert P J Bool} (hm : M.R x b) (h : b = true → Runs c (KE cert r)) :
    Runs (.call M x fun q => .ite t q c (.ret false)) (KE cert (b && r)) := run_call b hm (and_t h)
theorem and_n {cert : J → Cert P J Bool} {f : FuncId} {A : Type} {M : Mir P f A Bool} {x : A} {t : Nat} {b r : Bool} {c : Cert P J Bool} (hm : M.R x b) (h : b = true → Runs c (KE cert r)) :
    Runs (.call M x fun q => .ite t (!q) (.ret false) c) (KE cert (b && r)) := run_call b hm (and_f h)
theorem or_f {cert : J → Cert P J Bool} {t : Nat} {b r : Bool} {c : Cert P J Bool} (h : b = false → Runs c (KE cert r)) : Runs (.ite t b (.ret true) c) (KE cert (b || r)) := by
  cases b
  · exact run_f rfl (h rfl)
  · exact run_t rfl (ke_ret rfl)
theorem nor_f {cert : J → Cert P J Bool} {t : Nat} {b r : Bool} {c : Cert P J Bool} (h : b = false → Runs c (KE cert r)) : Runs (.ite t b (.ret false) c) (KE cert (!b && r)) := by
  cases b
  · exact run_f rfl (h rfl)
  · exact run_t rfl (ke_ret rfl)
theorem ite_if {Y : Type} {cert : J → Cert P J Y} {t : Nat} {b : Bool} {y z : Y} {c d : Cert P J Y} (h1 : b = true → Runs c (KE cert y)) (h2 : b = false → Runs d (KE cert z)) : Runs (.ite t b c d) (KE cert (if b = true then y else z)) := by
  cases b
  · exact run_f rfl (h2 rfl)
  · exact run_t rfl (h1 rfl)
theorem ev_zip {cert : J → Cert P J Bool} {α β : Type} (xs : List α) (ys : List β) (hl : xs.length = ys.length) (pl : Int → J) (p : α → β → Bool) (rest : Bool) (hb : xs.length ≤ 4611686018427387904)
    (hend : Runs (cert (pl xs.length)) (KE cert rest))
    (hstep : ∀ (i : Nat) (h : i < xs.length) (h' : i < ys.length), decide ((i : Int) < (xs.length : Int)) = true → IntKind.i64.wrap ((i : Int) + 1) = ((i + 1 : Nat) : Int) → ∀ x y, xs[i] = x → ys[i] = y → x ∈ xs → y ∈ ys →
      ∀ r, (p x y = true → Ev cert (pl ((i + 1 : Nat) : Int)) r) → Runs (cert (pl i)) (KE cert (p x y && r))) :
    Ev cert (pl 0) ((xs.zip ys).all (fun q => p q.1 q.2) && rest) := by
  have hz : (xs.zip ys).length = xs.length := by rw [List.length_zip, hl, Nat.min_self]
  refine (ev_for (xs.zip ys) (fun i (_ : Unit) => pl i) (fun _ _ => True) (fun r _ => r.all (fun q => p q.1 q.2) && rest) (by rw [hz]; exact hb) ?_ ?_ () trivial :)
  · intro _ _
    rw [hz]; exact hend
  · intro i hi _ _ hw ht x r hx hm y hy ih
    have h1 : i < xs.length := by rw [hz] at hi; exact hi
    have h2 : i < ys.length := by rw [← hl]; exact h1
    rw [List.all_cons, Bool.and_assoc] at hy
    have hxx : x = (xs[i], ys[i]) := by rw [← hx, List.getElem_zip]
    rw [hy]
    rw [hxx] at hm ⊢
    exact hstep i h1 h2 (by rw [hz] at ht; exact ht) hw _ _ rfl rfl (List.getElem_mem _) (List.getElem_mem _) _ (fun hp => ih () trivial (by rfl))
theorem ev_all {cert : J → Cert P J Bool} {α : Type} (xs : List α) (pl : Int → J) (p : α → Bool) (rest : Bool) (hb : xs.length ≤ 4611686018427387904)
    (hend : Runs (cert (pl xs.length)) (KE cert rest))
    (hstep : ∀ (i : Nat) (h : i < xs.length), decide ((i : Int) < (xs.length : Int)) = true → IntKind.i64.wrap ((i : Int) + 1) = ((i + 1 : Nat) : Int) → ∀ x, xs[i] = x → x ∈ xs →
      ∀ r, (p x = true → Ev cert (pl ((i + 1 : Nat) : Int)) r) → Runs (cert (pl i)) (KE cert (p x && r))) :
    Ev cert (pl 0) (xs.all p && rest) := by
  refine (ev_for xs (fun i (_ : Unit) => pl i) (fun _ _ => True) (fun r _ => r.all p && rest) hb ?_ ?_ () trivial :)
  · intro _ _; exact hend
  · intro i hi _ _ hw ht x r hx hm y hy ih
    rw [List.all_cons, Bool.and_assoc] at hy
    rw [hy]
    exact hstep i hi ht hw _ hx hm _ (fun hp => ih () trivial (by rfl))
theorem ev_any {cert : J → Cert P J Bool} {α : Type} (xs : List α) (pl : Int → J) (p : α → Bool) (rest : Bool) (hb : xs.length ≤ 4611686018427387904)
    (hend : Runs (cert (pl xs.length)) (KE cert rest))
    (hstep : ∀ (i : Nat) (h : i < xs.length), decide ((i : Int) < (xs.length : Int)) = true → IntKind.i64.wrap ((i : Int) + 1) = ((i + 1 : Nat) : Int) → ∀ x, xs[i] = x → x ∈ xs →
      ∀ r, (p x = false → Ev cert (pl ((i + 1 : Nat) : Int)) r) → Runs (cert (pl i)) (KE cert (p x || r))) :
    Ev cert (pl 0) (xs.any p || rest) := by
  refine (ev_for xs (fun i (_ : Unit) => pl i) (fun _ _ => True) (fun r _ => r.any p || rest) hb ?_ ?_ () trivial :)
  · intro _ _; exact hend
  · intro i hi _ _ hw ht x r hx hm y hy ih
    rw [List.any_cons, Bool.or_assoc] at hy
    rw [hy]
    exact hstep i hi ht hw _ hx hm _ (fun hp => ih () trivial (by rfl))
end
theorem eq_nn (a b : Nat) : ((a : Int) != (b : Int)) = !decide (a = b) := by
  by_cases h : a = b
  · subst h; simp
  · simp [h]; omega
theorem zip_eq {α : Type} (p : α → α → Bool) (hp : ∀ a b, p a b = true ↔ a = b) : ∀ (xs ys : List α), xs.length = ys.length → ((xs.zip ys).all (fun q => p q.1 q.2) = true ↔ xs = ys)
  | [], [], _ => by simp
  | x :: xs, y :: ys, h => by
    have ih := zip_eq p hp xs ys (by simpa using h)
    rw [List.zip_cons_cons, List.all_cons, Bool.and_eq_true, ih, hp, List.cons.injEq]
  | [], _ :: _, h => by simp at h
  | _ :: _, [], h => by simp at h
theorem zip_dec {α : Type} [DecidableEq α] (p : α → α → Bool) (hp : ∀ a b, p a b = true ↔ a = b) (xs ys : List α) :
    (decide (xs.length = ys.length) && (xs.zip ys).all (fun q => p q.1 q.2)) = decide (xs = ys) := by
  by_cases h : xs.length = ys.length
  · rw [decide_eq_true h, Bool.true_and, Bool.eq_iff_iff, zip_eq p hp xs ys h, decide_eq_true_eq]
  · rw [decide_eq_false h, Bool.false_and, decide_eq_false (fun e => h (by rw [e]))]
end Go.AV.U
namespace Go.AV.U
open Go
attribute [local irreducible] Runs
section
variable {P : Program} {J Y : Type}
theorem modify_const {α : Type} (l : List α) (i : Nat) (h : i < l.length) (x : α) : l.modify i (fun _ => x) = l.take i ++ x :: l.drop (i + 1) := by
  rw [List.modify_eq_take_cons_drop h]
theorem ev_upd {cert : J → Cert P J Y} {α : Type} (xs : List α) (g : α → α) (pl : Int → List α → J) (y : Y) (hb : xs.length ≤ 4611686018427387904)
    (hend : Runs (cert (pl xs.length (xs.map g))) (KE cert y))
    (hstep : ∀ (i : Nat) (h : i < xs.length) (zs : List α), zs.length = xs.length → decide ((i : Int) < (xs.length : Int)) = true → IntKind.i64.wrap ((i : Int) + 1) = ((i + 1 : Nat) : Int) → ∀ x, ∀ (hz : i < zs.length), zs[i] = x → x ∈ xs →
      Ev cert (pl ((i + 1 : Nat) : Int) (zs.modify i (fun _ => g x))) y → Runs (cert (pl i zs)) (KE cert y)) :
    Ev cert (pl 0 xs) y := by
  refine (ev_for xs (fun i s => pl i s) (fun i s => s = (xs.take i).map g ++ xs.drop i) (fun _ _ => y) hb ?_ ?_ xs (by simp) :)
  · intro s hs
    have : s = xs.map g := by rw [hs]; simp
    rw [this]; exact hend
  · intro i hi s hs hw ht x r hx hm y' hy ih
    subst hy
    have hl : s.length = xs.length := by rw [hs]; simp; omega
    have hsi : i < s.length := by omega
    have hx2 : s[i] = x := by
      rw [← hx]
      have e : s[i] = ((xs.take i).map g ++ xs.drop i)[i]'(by rw [← hs]; exact hsi) := by congr 1
      rw [e, List.getElem_append_right (by simp; omega)]
      simp [Nat.min_eq_left (Nat.le_of_lt hi)]
    refine hstep i hi s hl ht hw x hsi hx2 hm (ih _ ?_ rfl)
    rw [modify_const s i hsi, hs, ← hx]
    have h1 : ((xs.take i).map g).length = i := by simp; omega
    rw [List.take_append_of_le_length (by omega), List.take_of_length_le (by omega), List.drop_append, List.drop_of_length_le (by omega)]
    have h2 : (xs.take (i + 1)).map g = (xs.take i).map g ++ [g xs[i]] := by rw [List.take_succ_eq_append_getElem hi, List.map_append]; rfl
    rw [List.nil_append, h1, show i + 1 - i = 1 by omega, List.drop_drop, h2, List.append_assoc]
    rfl
end
end Go.AV.U
end
