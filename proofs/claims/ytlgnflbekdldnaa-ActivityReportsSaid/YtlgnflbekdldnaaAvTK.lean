/- Printed by pr.py. -/
import Derived.Test.YtlgnflbekdldnaaAvTV
import Derived.Test.YtlgnflbekdldnaaAvTH
set_option linter.unusedVariables false
set_option maxRecDepth 100000
set_option maxHeartbeats 2000000
namespace Go.Proofs
open Go Go.AV
/-! ### 187 workflow/command.in -/
noncomputable def Try.b187 : Code := Try.f187.body.getD .skip
noncomputable def Try.x187 : Cx Empty Bool where
  nt := 15
  rvs := [.tmp 6]
  mh := []
  res := fun y => [.one (.c (.bool y))]
  outs := fun y => []
  path := fun j => nomatch j
  sig := fun j => nomatch j
  snap := fun j => nomatch j
noncomputable def Try.a187 (n_0 : Int) (low_1 : Int) (high_2 : Int) : Cert Try.prog Empty Bool :=
    .ite 10 (decide (low_1 ≤ n_0))
    (.ret (decide (n_0 ≤ high_2)))
    (.ret false)
noncomputable def Try.c187 : Empty → Cert Try.prog Empty Bool := fun j => nomatch j
theorem Try.h187 (n_0 : Int) (low_1 : Int) (high_2 : Int) : execC Try.prog Try.x187 Try.b187 [] (topC Try.prog Try.x187) (Try.a187 n_0 low_1 high_2) (ES.init [.val (.one (.c (.int .i64 n_0))), .val (.one (.c (.int .i64 low_1))), .val (.one (.c (.int .i64 high_2)))]) :=
  of_triv (rs := Try.x187.rs) (snap := Try.x187.snap) (c := Try.a187 n_0 low_1 high_2) (by kernel_rfl)
theorem Try.g187 : ∀ j, chkAt Try.prog Try.x187 Try.b187 (Try.x187.path j) (Try.c187 j) (Try.x187.snap j).es := fun j => nomatch j
noncomputable def Try.m187 : Mir Try.prog 187 (Int × Int × Int) Bool where
  fs := [.one none, .one none, .one none]
  ga := fun x => [.val (.one (.c (.int .i64 x.1))), .val (.one (.c (.int .i64 x.2.1))), .val (.one (.c (.int .i64 x.2.2)))]
  caps := fun x => []
  res := Try.x187.res
  outs := Try.x187.outs
  R := fun x y => Runs (Try.a187 x.1 x.2.1 x.2.2) (KOf (fun j => Ev (Try.c187) j y) y)
  ok := fun x y h => sys_ok (cx := Try.x187) (body := Try.b187) Try.follow Try.func187 (by kernel_rfl) (by kernel_rfl) (by kernel_rfl) (by kernel_rfl) _ (Nat.le_of_ble_eq_true rfl) (by kernel_rfl) _ (Try.h187 x.1 x.2.1 x.2.2) (Try.g187) y h
  flat := true
  hflat := fun _ _ => flatE rfl
/-! ### 189 workflow/command.RightPolicy$1 -/
noncomputable def Try.b189 : Code := Try.f189.body.getD .skip
noncomputable def Try.x189 : Cx Empty Bool where
  nt := 6
  rvs := [.tmp 2]
  mh := []
  res := fun y => [.one (.c (.bool y))]
  outs := fun y => []
  path := fun j => nomatch j
  sig := fun j => nomatch j
  snap := fun j => nomatch j
noncomputable def Try.a189 (s_0 : ByteArray) : Cert Try.prog Empty Bool :=
    .ret (decide (4096 < (s_0.size : Int)))
noncomputable def Try.c189 : Empty → Cert Try.prog Empty Bool := fun j => nomatch j
theorem Try.h189 (s_0 : ByteArray) : execC Try.prog Try.x189 Try.b189 [] (topC Try.prog Try.x189) (Try.a189 s_0) (ES.init [.val (.one (.c (.str s_0)))]) :=
  of_triv (rs := Try.x189.rs) (snap := Try.x189.snap) (c := Try.a189 s_0) (by kernel_rfl)
theorem Try.g189 : ∀ j, chkAt Try.prog Try.x189 Try.b189 (Try.x189.path j) (Try.c189 j) (Try.x189.snap j).es := fun j => nomatch j
noncomputable def Try.m189 : Mir Try.prog 189 ByteArray Bool where
  fs := [.one none]
  ga := fun x => [.val (.one (.c (.str x)))]
  caps := fun x => []
  res := Try.x189.res
  outs := Try.x189.outs
  R := fun x y => Runs (Try.a189 x) (KOf (fun j => Ev (Try.c189) j y) y)
  ok := fun x y h => sys_ok (cx := Try.x189) (body := Try.b189) Try.follow Try.func189 (by kernel_rfl) (by kernel_rfl) (by kernel_rfl) (by kernel_rfl) _ (Nat.le_of_ble_eq_true rfl) (by kernel_rfl) _ (Try.h189 x) (Try.g189) y h
  flat := true
  hflat := fun _ _ => flatE rfl
/-! ### 129 workflow/command.RightPolicy -/
inductive Try.J129 where
  | s0 (o_t1 : GPolicy)
  | s1 (o_t1 : GPolicy) (t32 : List Int) (t33 : Int) (t34 : Int)
noncomputable def Try.b129 : Code := Try.f129.body.getD .skip
noncomputable def Try.x129 : Cx Try.J129 Bool where
  nt := 56
  rvs := [.tmp 2]
  mh := []
  res := fun y => [.one (.c (.bool y))]
  outs := fun y => []
  path := fun
    | .s0 _ => [1, 1]
    | .s1 _ _ _ _ => [0, 1, 0, 1, 1]
  sig := fun
    | .s0 _ => [1]
    | .s1 _ _ _ _ => [1, 32, 33, 34]
  snap := fun
    | .s0 o_t1 => ⟨[(1, .one (.ptr 0 1 0))], [((0, 1), .box ((GPolicy.cs o_t1).map A.c))]⟩
    | .s1 o_t1 t32 t33 t34 => ⟨[(1, .one (.ptr 0 1 0)), (32, .one (.own 1 1)), (33, .one (.c (.int .i64 t33))), (34, .one (.c (.int .i64 t34)))], [((0, 1), .box ((GPolicy.cs o_t1).map A.c)), ((1, 1), .arr 3 1 (E.i64.L t32))]⟩
noncomputable def Try.a129 (o_0 : GPolicy) : Cert Try.prog Try.J129 Bool :=
    .ite 8 (!strEq o_0.Queue (⟨#[]⟩ : ByteArray))
    (.call Try.m139 o_0.Queue fun r1 =>
    .ite 14 (!r1)
    (.ret false)
    (.len E.str o_0.Fatal <|
    .ite 19 (decide (64 < (o_0.Fatal.length : Int)))
    (.ret false)
    (.jump (.s0 o_0) [(1000, 1)])))
    (.len E.str o_0.Fatal <|
    .ite 19 (decide (64 < (o_0.Fatal.length : Int)))
    (.ret false)
    (.jump (.s0 o_0) [(1000, 1)]))
noncomputable def Try.c129 : Try.J129 → Cert Try.prog Try.J129 Bool
  | .s0 o_t1 =>
    .bld E.i64 [o_t1.ToStart, o_t1.ToClose, o_t1.Total, o_t1.Beat, o_t1.First, o_t1.Most] <|
    .len E.i64 [o_t1.ToStart, o_t1.ToClose, o_t1.Total, o_t1.Beat, o_t1.First, o_t1.Most] <|
    .jump (.s1 o_t1 [o_t1.ToStart, o_t1.ToClose, o_t1.Total, o_t1.Beat, o_t1.First, o_t1.Most] ([o_t1.ToStart, o_t1.ToClose, o_t1.Total, o_t1.Beat, o_t1.First, o_t1.Most].length : Int) 0) [(0, 1), (32000, 2)]
  | .s1 o_t1 t32 t33 t34 =>
    .ite 35 (decide (t34 < t33))
    (.idx E.i64 t32 t34 <|
    .eget E.i64 t32 t34.toNat fun a2 =>
    .call Try.m187 (a2, 0, 1099511627776) fun r3 =>
    .ite 40 (!r3)
    (.ret false)
    (.jump (.s1 o_t1 t32 t33 (IntKind.i64.wrap (t34 + 1))) [(0, 1), (1, 1)]))
    (.call Try.m187 (o_t1.Coef, 0, 10000) fun r4 =>
    .ite 45 r4
    (.call Try.m187 (o_t1.Attempts, 0, 1000) fun r5 =>
    .ite 50 r5
    (.call Try.m188 (o_t1.Fatal, (⟨189, [], fun a b => Try.m189.R a b, fun a b h => Try.m189.ok a b h⟩ : Try.Clo172)) fun r6 =>
    .ret (!r6))
    (.ret false))
    (.ret false))
theorem Try.h129 (o_0 : GPolicy) : execC Try.prog Try.x129 Try.b129 [] (topC Try.prog Try.x129) (Try.a129 o_0) (ES.init [.val (.agg ((GPolicy.cs o_0).map R.c))]) :=
  of_triv (rs := Try.x129.rs) (snap := Try.x129.snap) (c := Try.a129 o_0) (by kernel_rfl)
theorem Try.g129 : ∀ j, chkAt Try.prog Try.x129 Try.b129 (Try.x129.path j) (Try.c129 j) (Try.x129.snap j).es
  | .s0 o_t1 => of_triv (rs := Try.x129.rs) (snap := Try.x129.snap) (c := Try.c129 (.s0 o_t1)) (by kernel_rfl)
  | .s1 o_t1 t32 t33 t34 => of_triv (rs := Try.x129.rs) (snap := Try.x129.snap) (c := Try.c129 (.s1 o_t1 t32 t33 t34)) (by kernel_rfl)
noncomputable def Try.m129 : Mir Try.prog 129 GPolicy Bool where
  fs := [.agg (List.replicate 10 none)]
  ga := fun x => [.val (.agg ((GPolicy.cs x).map R.c))]
  caps := fun x => []
  res := Try.x129.res
  outs := Try.x129.outs
  R := fun x y => Runs (Try.a129 x) (KOf (fun j => Ev (Try.c129) j y) y)
  ok := fun x y h => sys_ok (cx := Try.x129) (body := Try.b129) Try.follow Try.func129 (by kernel_rfl) (by kernel_rfl) (by kernel_rfl) (by kernel_rfl) _ (Nat.le_of_ble_eq_true rfl) (by kernel_rfl) _ (Try.h129 x) (Try.g129) y h
  flat := true
  hflat := fun _ _ => flatE rfl
/-! ### 130 workflow/retry.filled -/
inductive Try.J130 where
  | s0 (o_t1 : GPolicy) (t2 : GPolicy)
  | s1 (o_t1 : GPolicy) (t2 : GPolicy)
noncomputable def Try.b130 : Code := Try.f130.body.getD .skip
noncomputable def Try.x130 : Cx Try.J130 GPolicy where
  nt := 20
  rvs := [.cell 2 27]
  mh := []
  res := fun y => [.agg ((GPolicy.cs y).map R.c)]
  outs := fun y => []
  path := fun
    | .s0 _ _ => [1, 1]
    | .s1 _ _ => [1, 1, 1]
  sig := fun
    | .s0 _ _ => [1, 2]
    | .s1 _ _ => [1, 2]
  snap := fun
    | .s0 o_t1 t2 => ⟨[(1, .one (.ptr 0 1 0)), (2, .one (.ptr 1 1 0))], [((0, 1), .box ((GPolicy.cs o_t1).map A.c)), ((1, 1), .box (((GPolicy.cs t2).map A.c).set 9 .nil))]⟩
    | .s1 o_t1 t2 => ⟨[(1, .one (.ptr 0 1 0)), (2, .one (.ptr 1 1 0))], [((0, 1), .box ((GPolicy.cs o_t1).map A.c)), ((1, 1), .box (((GPolicy.cs t2).map A.c).set 9 .nil))]⟩
noncomputable def Try.a130 (o_0 : GPolicy) : Cert Try.prog Try.J130 GPolicy :=
    .ite 5 (o_0.First == 0)
    (.jump (.s0 (GPolicy.mk o_0.Queue o_0.ToStart o_0.ToClose o_0.Total o_0.Beat 1 o_0.Coef o_0.Most o_0.Attempts o_0.Fatal) (GPolicy.mk (⟨#[]⟩ : ByteArray) 0 0 0 0 0 0 0 0 [])) [(1000, 1), (2000, 1)])
    (.jump (.s0 o_0 (GPolicy.mk (⟨#[]⟩ : ByteArray) 0 0 0 0 0 0 0 0 [])) [(1000, 1), (2000, 1)])
noncomputable def Try.c130 : Try.J130 → Cert Try.prog Try.J130 GPolicy
  | .s0 o_t1 t2 =>
    .ite 9 (o_t1.Coef == 0)
    (.jump (.s1 (GPolicy.mk o_t1.Queue o_t1.ToStart o_t1.ToClose o_t1.Total o_t1.Beat o_t1.First 200 o_t1.Most o_t1.Attempts o_t1.Fatal) (GPolicy.mk t2.Queue t2.ToStart t2.ToClose t2.Total t2.Beat t2.First t2.Coef t2.Most t2.Attempts [])) [(0, 1), (1, 1)])
    (.jump (.s1 o_t1 (GPolicy.mk t2.Queue t2.ToStart t2.ToClose t2.Total t2.Beat t2.First t2.Coef t2.Most t2.Attempts [])) [(0, 1), (1, 1)])
  | .s1 o_t1 t2 =>
    .ite 13 (o_t1.Most == 0)
    (.ret (GPolicy.mk o_t1.Queue o_t1.ToStart o_t1.ToClose o_t1.Total o_t1.Beat o_t1.First o_t1.Coef (if 1099511627776 < (IntKind.i64.wrap (100 * o_t1.First)) then 1099511627776 else (IntKind.i64.wrap (100 * o_t1.First))) o_t1.Attempts o_t1.Fatal))
    (.ret o_t1)
theorem Try.h130 (o_0 : GPolicy) : execC Try.prog Try.x130 Try.b130 [] (topC Try.prog Try.x130) (Try.a130 o_0) (ES.init [.val (.agg ((GPolicy.cs o_0).map R.c))]) :=
  of_triv (rs := Try.x130.rs) (snap := Try.x130.snap) (c := Try.a130 o_0) (by kernel_rfl)
theorem Try.g130 : ∀ j, chkAt Try.prog Try.x130 Try.b130 (Try.x130.path j) (Try.c130 j) (Try.x130.snap j).es
  | .s0 o_t1 t2 => of_triv (rs := Try.x130.rs) (snap := Try.x130.snap) (c := Try.c130 (.s0 o_t1 t2)) (by kernel_rfl)
  | .s1 o_t1 t2 => of_triv (rs := Try.x130.rs) (snap := Try.x130.snap) (c := Try.c130 (.s1 o_t1 t2)) (by kernel_rfl)
noncomputable def Try.m130 : Mir Try.prog 130 GPolicy GPolicy where
  fs := [.agg (List.replicate 10 none)]
  ga := fun x => [.val (.agg ((GPolicy.cs x).map R.c))]
  caps := fun x => []
  res := Try.x130.res
  outs := Try.x130.outs
  R := fun x y => Runs (Try.a130 x) (KOf (fun j => Ev (Try.c130) j y) y)
  ok := fun x y h => sys_ok (cx := Try.x130) (body := Try.b130) Try.follow Try.func130 (by kernel_rfl) (by kernel_rfl) (by kernel_rfl) (by kernel_rfl) _ (Nat.le_of_ble_eq_true rfl) (by kernel_rfl) _ (Try.h130 x) (Try.g130) y h
  flat := false
  hflat := fun h => nomatch h
/-! ### 192 slices.Index[[]string,string] -/
inductive Try.J192 where
  | s0 (s_t0 : List ByteArray) (v_t1 : ByteArray) (t7 : Int) (t8 : Int)
noncomputable def Try.b192 : Code := Try.f192.body.getD .skip
noncomputable def Try.x192 : Cx Try.J192 Int where
  nt := 19
  rvs := [.tmp 4]
  mh := []
  res := fun y => [.one (.c (.int .i64 y))]
  outs := fun y => []
  path := fun
    | .s0 _ _ _ _ => [0, 1, 0, 1]
  sig := fun
    | .s0 _ _ _ _ => [0, 1, 7, 8]
  snap := fun
    | .s0 s_t0 v_t1 t7 t8 => ⟨[(0, .one (.c (.sl (E.str.L s_t0)))), (1, .one (.c (.str v_t1))), (7, .one (.c (.int .i64 t7))), (8, .one (.c (.int .i64 t8)))], []⟩
noncomputable def Try.a192 (s_0 : List ByteArray) (v_1 : ByteArray) : Cert Try.prog Try.J192 Int :=
    .len E.str s_0 <|
    .jump (.s0 s_0 v_1 (s_0.length : Int) 0) []
noncomputable def Try.c192 : Try.J192 → Cert Try.prog Try.J192 Int
  | .s0 s_t0 v_t1 t7 t8 =>
    .ite 9 (decide (t8 < t7))
    (.elem E.str s_t0 t8 fun a1 =>
    .ite 16 (strEq v_t1 a1)
    (.ret t8)
    (.jump (.s0 s_t0 v_t1 t7 (IntKind.i64.wrap (t8 + 1))) []))
    (.ret (-1))
theorem Try.h192 (s_0 : List ByteArray) (v_1 : ByteArray) : execC Try.prog Try.x192 Try.b192 [] (topC Try.prog Try.x192) (Try.a192 s_0 v_1) (ES.init [.val (.one (.c (.sl (E.str.L s_0)))), .val (.one (.c (.str v_1)))]) :=
  of_triv (rs := Try.x192.rs) (snap := Try.x192.snap) (c := Try.a192 s_0 v_1) (by kernel_rfl)
theorem Try.g192 : ∀ j, chkAt Try.prog Try.x192 Try.b192 (Try.x192.path j) (Try.c192 j) (Try.x192.snap j).es
  | .s0 s_t0 v_t1 t7 t8 => of_triv (rs := Try.x192.rs) (snap := Try.x192.snap) (c := Try.c192 (.s0 s_t0 v_t1 t7 t8)) (by kernel_rfl)
noncomputable def Try.m192 : Mir Try.prog 192 ((List ByteArray) × ByteArray) Int where
  fs := [.one none, .one none]
  ga := fun x => [.val (.one (.c (.sl (E.str.L x.1)))), .val (.one (.c (.str x.2)))]
  caps := fun x => []
  res := Try.x192.res
  outs := Try.x192.outs
  R := fun x y => Runs (Try.a192 x.1 x.2) (KOf (fun j => Ev (Try.c192) j y) y)
  ok := fun x y h => sys_ok (cx := Try.x192) (body := Try.b192) Try.follow Try.func192 (by kernel_rfl) (by kernel_rfl) (by kernel_rfl) (by kernel_rfl) _ (Nat.le_of_ble_eq_true rfl) (by kernel_rfl) _ (Try.h192 x.1 x.2) (Try.g192) y h
  flat := true
  hflat := fun _ _ => flatE rfl
/-! ### 133 slices.Contains[[]string,string] -/
noncomputable def Try.b133 : Code := Try.f133.body.getD .skip
noncomputable def Try.x133 : Cx Empty Bool where
  nt := 9
  rvs := [.tmp 4]
  mh := []
  res := fun y => [.one (.c (.bool y))]
  outs := fun y => []
  path := fun j => nomatch j
  sig := fun j => nomatch j
  snap := fun j => nomatch j
noncomputable def Try.a133 (s_0 : List ByteArray) (v_1 : ByteArray) : Cert Try.prog Empty Bool :=
    .call Try.m192 (s_0, v_1) fun r1 =>
    .ret (decide (0 ≤ r1))
noncomputable def Try.c133 : Empty → Cert Try.prog Empty Bool := fun j => nomatch j
theorem Try.h133 (s_0 : List ByteArray) (v_1 : ByteArray) : execC Try.prog Try.x133 Try.b133 [] (topC Try.prog Try.x133) (Try.a133 s_0 v_1) (ES.init [.val (.one (.c (.sl (E.str.L s_0)))), .val (.one (.c (.str v_1)))]) :=
  of_triv (rs := Try.x133.rs) (snap := Try.x133.snap) (c := Try.a133 s_0 v_1) (by kernel_rfl)
theorem Try.g133 : ∀ j, chkAt Try.prog Try.x133 Try.b133 (Try.x133.path j) (Try.c133 j) (Try.x133.snap j).es := fun j => nomatch j
noncomputable def Try.m133 : Mir Try.prog 133 ((List ByteArray) × ByteArray) Bool where
  fs := [.one none, .one none]
  ga := fun x => [.val (.one (.c (.sl (E.str.L x.1)))), .val (.one (.c (.str x.2)))]
  caps := fun x => []
  res := Try.x133.res
  outs := Try.x133.outs
  R := fun x y => Runs (Try.a133 x.1 x.2) (KOf (fun j => Ev (Try.c133) j y) y)
  ok := fun x y h => sys_ok (cx := Try.x133) (body := Try.b133) Try.follow Try.func133 (by kernel_rfl) (by kernel_rfl) (by kernel_rfl) (by kernel_rfl) _ (Nat.le_of_ble_eq_true rfl) (by kernel_rfl) _ (Try.h133 x.1 x.2) (Try.g133) y h
  flat := true
  hflat := fun _ _ => flatE rfl
/-! ### 63 workflow/retry.Fatal -/
noncomputable def Try.b63 : Code := Try.f63.body.getD .skip
noncomputable def Try.x63 : Cx Empty Bool where
  nt := 9
  rvs := [.tmp 4]
  mh := []
  res := fun y => [.one (.c (.bool y))]
  outs := fun y => []
  path := fun j => nomatch j
  sig := fun j => nomatch j
  snap := fun j => nomatch j
noncomputable def Try.a63 (o_0 : GPolicy) (failure_1 : ByteArray) : Cert Try.prog Empty Bool :=
    .call Try.m133 (o_0.Fatal, failure_1) fun r1 =>
    .ret r1
noncomputable def Try.c63 : Empty → Cert Try.prog Empty Bool := fun j => nomatch j
theorem Try.h63 (o_0 : GPolicy) (failure_1 : ByteArray) : execC Try.prog Try.x63 Try.b63 [] (topC Try.prog Try.x63) (Try.a63 o_0 failure_1) (ES.init [.val (.agg ((GPolicy.cs o_0).map R.c)), .val (.one (.c (.str failure_1)))]) :=
  of_triv (rs := Try.x63.rs) (snap := Try.x63.snap) (c := Try.a63 o_0 failure_1) (by kernel_rfl)
theorem Try.g63 : ∀ j, chkAt Try.prog Try.x63 Try.b63 (Try.x63.path j) (Try.c63 j) (Try.x63.snap j).es := fun j => nomatch j
noncomputable def Try.m63 : Mir Try.prog 63 (GPolicy × ByteArray) Bool where
  fs := [.agg (List.replicate 10 none), .one none]
  ga := fun x => [.val (.agg ((GPolicy.cs x.1).map R.c)), .val (.one (.c (.str x.2)))]
  caps := fun x => []
  res := Try.x63.res
  outs := Try.x63.outs
  R := fun x y => Runs (Try.a63 x.1 x.2) (KOf (fun j => Ev (Try.c63) j y) y)
  ok := fun x y h => sys_ok (cx := Try.x63) (body := Try.b63) Try.follow Try.func63 (by kernel_rfl) (by kernel_rfl) (by kernel_rfl) (by kernel_rfl) _ (Nat.le_of_ble_eq_true rfl) (by kernel_rfl) _ (Try.h63 x.1 x.2) (Try.g63) y h
  flat := true
  hflat := fun _ _ => flatE rfl
/-! ### 59 workflow/retry.Delay -/
inductive Try.J59 where
  | s0 (attempt_t1 : Int) (seed_t2 : Int) (d_t7 : GPolicy) (x_t8 : Int) (t26 : Int) (t27 : Int)
  | s1 (attempt_t1 : Int) (seed_t2 : Int) (x_t8 : Int)
noncomputable def Try.b59 : Code := Try.f59.body.getD .skip
noncomputable def Try.x59 : Cx Try.J59 Int where
  nt := 50
  rvs := [.tmp 6]
  mh := []
  res := fun y => [.one (.c (.int .i64 y))]
  outs := fun y => []
  path := fun
    | .s0 _ _ _ _ _ _ => [0, 1, 0, 1, 1, 1, 1]
    | .s1 _ _ _ => [1, 1, 1, 1, 1]
  sig := fun
    | .s0 _ _ _ _ _ _ => [1, 2, 7, 8, 26, 27]
    | .s1 _ _ _ => [1, 2, 8]
  snap := fun
    | .s0 attempt_t1 seed_t2 d_t7 x_t8 t26 t27 => ⟨[(1, .one (.c (.int .i64 attempt_t1))), (2, .one (.c (.int .i64 seed_t2))), (7, .one (.ptr 0 1 0)), (8, .one (.c (.int .i64 x_t8))), (26, .one (.c (.int .i64 t26))), (27, .one (.c (.int .i64 t27)))], [((0, 1), .box ((GPolicy.cs d_t7).map A.c))]⟩
    | .s1 attempt_t1 seed_t2 x_t8 => ⟨[(1, .one (.c (.int .i64 attempt_t1))), (2, .one (.c (.int .i64 seed_t2))), (8, .one (.c (.int .i64 x_t8)))], []⟩
noncomputable def Try.a59 (o_0 : GPolicy) (attempt_1 : Int) (seed_2 : Int) : Cert Try.prog Try.J59 Int :=
    .ite 12 (decide (attempt_1 < 1))
    (.ret 0)
    (.call Try.m129 o_0 fun r1 =>
    .ite 16 (!r1)
    (.ret 0)
    (.call Try.m130 o_0 fun r2 =>
    .jump (.s0 attempt_1 seed_2 r2 (if r2.Most < r2.First then r2.Most else r2.First) (IntKind.i64.wrap ((if 1000 < attempt_1 then 1000 else attempt_1) - 1)) 0) [(7000, 1)]))
noncomputable def Try.c59 : Try.J59 → Cert Try.prog Try.J59 Int
  | .s0 attempt_t1 seed_t2 d_t7 x_t8 t26 t27 =>
    .ite 28 (decide (t27 < t26))
    (.dvd 100 <|
    .ite 39 ((if d_t7.Most < (IntKind.i64.wrap (Int.tdiv (IntKind.i64.wrap (x_t8 * d_t7.Coef)) 100)) then d_t7.Most else (IntKind.i64.wrap (Int.tdiv (IntKind.i64.wrap (x_t8 * d_t7.Coef)) 100))) == x_t8)
    (.jump (.s1 attempt_t1 seed_t2 x_t8) [])
    (.jump (.s0 attempt_t1 seed_t2 d_t7 (if d_t7.Most < (IntKind.i64.wrap (Int.tdiv (IntKind.i64.wrap (x_t8 * d_t7.Coef)) 100)) then d_t7.Most else (IntKind.i64.wrap (Int.tdiv (IntKind.i64.wrap (x_t8 * d_t7.Coef)) 100))) t26 (IntKind.i64.wrap (t27 + 1))) [(0, 1)]))
    (.jump (.s1 attempt_t1 seed_t2 x_t8) [])
  | .s1 attempt_t1 seed_t2 x_t8 =>
    .ite 43 (decide (0 < seed_t2))
    (.call Try.m131 (seed_t2, attempt_t1, x_t8, 10) fun r3 =>
    .ret (if 1099511627776 < r3 then 1099511627776 else r3))
    (.ret x_t8)
theorem Try.h59 (o_0 : GPolicy) (attempt_1 : Int) (seed_2 : Int) : execC Try.prog Try.x59 Try.b59 [] (topC Try.prog Try.x59) (Try.a59 o_0 attempt_1 seed_2) (ES.init [.val (.agg ((GPolicy.cs o_0).map R.c)), .val (.one (.c (.int .i64 attempt_1))), .val (.one (.c (.int .i64 seed_2)))]) :=
  of_triv (rs := Try.x59.rs) (snap := Try.x59.snap) (c := Try.a59 o_0 attempt_1 seed_2) (by kernel_rfl)
theorem Try.g59 : ∀ j, chkAt Try.prog Try.x59 Try.b59 (Try.x59.path j) (Try.c59 j) (Try.x59.snap j).es
  | .s0 attempt_t1 seed_t2 d_t7 x_t8 t26 t27 => of_triv (rs := Try.x59.rs) (snap := Try.x59.snap) (c := Try.c59 (.s0 attempt_t1 seed_t2 d_t7 x_t8 t26 t27)) (by kernel_rfl)
  | .s1 attempt_t1 seed_t2 x_t8 => of_triv (rs := Try.x59.rs) (snap := Try.x59.snap) (c := Try.c59 (.s1 attempt_t1 seed_t2 x_t8)) (by kernel_rfl)
noncomputable def Try.m59 : Mir Try.prog 59 (GPolicy × Int × Int) Int where
  fs := [.agg (List.replicate 10 none), .one none, .one none]
  ga := fun x => [.val (.agg ((GPolicy.cs x.1).map R.c)), .val (.one (.c (.int .i64 x.2.1))), .val (.one (.c (.int .i64 x.2.2)))]
  caps := fun x => []
  res := Try.x59.res
  outs := Try.x59.outs
  R := fun x y => Runs (Try.a59 x.1 x.2.1 x.2.2) (KOf (fun j => Ev (Try.c59) j y) y)
  ok := fun x y h => sys_ok (cx := Try.x59) (body := Try.b59) Try.follow Try.func59 (by kernel_rfl) (by kernel_rfl) (by kernel_rfl) (by kernel_rfl) _ (Nat.le_of_ble_eq_true rfl) (by kernel_rfl) _ (Try.h59 x.1 x.2.1 x.2.2) (Try.g59) y h
  flat := true
  hflat := fun _ _ => flatE rfl
/-! ### 61 workflow/retry.Again -/
inductive Try.J61 where
  | s0 (attempt_t1 : Int) (spent_t3 : Int) (seed_t4 : Int) (o_t5 : GPolicy)
noncomputable def Try.b61 : Code := Try.f61.body.getD .skip
noncomputable def Try.x61 : Cx Try.J61 (Int × Bool) where
  nt := 58
  rvs := [.tmp 10, .tmp 11]
  mh := []
  res := fun y => [.one (.c (.int .i64 y.1)), .one (.c (.bool y.2))]
  outs := fun y => []
  path := fun
    | .s0 _ _ _ _ => [1, 1, 1]
  sig := fun
    | .s0 _ _ _ _ => [1, 3, 4, 5]
  snap := fun
    | .s0 attempt_t1 spent_t3 seed_t4 o_t5 => ⟨[(1, .one (.c (.int .i64 attempt_t1))), (3, .one (.c (.int .i64 spent_t3))), (4, .one (.c (.int .i64 seed_t4))), (5, .one (.ptr 0 1 0))], [((0, 1), .box ((GPolicy.cs o_t5).map A.c))]⟩
noncomputable def Try.a61 (o_0 : GPolicy) (attempt_1 : Int) (failure_2 : ByteArray) (spent_3 : Int) (seed_4 : Int) : Cert Try.prog Try.J61 (Int × Bool) :=
    .ite 15 (decide (attempt_1 < 1))
    (.ret (0, false))
    (.ite 19 (decide (1000 ≤ attempt_1))
    (.ret (0, false))
    (.ite 23 (decide (spent_3 < 0))
    (.ret (0, false))
    (.call Try.m129 o_0 fun r1 =>
    .ite 28 (!r1)
    (.ret (0, false))
    (.call Try.m63 (o_0, failure_2) fun r2 =>
    .ite 32 r2
    (.ret (0, false))
    (.ite 36 (decide (0 < o_0.Attempts))
    (.ite 41 (decide (o_0.Attempts ≤ attempt_1))
    (.ret (0, false))
    (.jump (.s0 attempt_1 spent_3 seed_4 o_0) [(5000, 1)]))
    (.jump (.s0 attempt_1 spent_3 seed_4 o_0) [(5000, 1)]))))))
noncomputable def Try.c61 : Try.J61 → Cert Try.prog Try.J61 (Int × Bool)
  | .s0 attempt_t1 spent_t3 seed_t4 o_t5 =>
    .call Try.m59 (o_t5, attempt_t1, seed_t4) fun r3 =>
    .ite 49 (decide (0 < o_t5.Total))
    (.ite 56 (decide ((IntKind.i64.wrap (o_t5.Total - spent_t3)) ≤ r3))
    (.ret (0, false))
    (.ret (r3, true)))
    (.ret (r3, true))
theorem Try.h61 (o_0 : GPolicy) (attempt_1 : Int) (failure_2 : ByteArray) (spent_3 : Int) (seed_4 : Int) : execC Try.prog Try.x61 Try.b61 [] (topC Try.prog Try.x61) (Try.a61 o_0 attempt_1 failure_2 spent_3 seed_4) (ES.init [.val (.agg ((GPolicy.cs o_0).map R.c)), .val (.one (.c (.int .i64 attempt_1))), .val (.one (.c (.str failure_2))), .val (.one (.c (.int .i64 spent_3))), .val (.one (.c (.int .i64 seed_4)))]) :=
  of_triv (rs := Try.x61.rs) (snap := Try.x61.snap) (c := Try.a61 o_0 attempt_1 failure_2 spent_3 seed_4) (by kernel_rfl)
theorem Try.g61 : ∀ j, chkAt Try.prog Try.x61 Try.b61 (Try.x61.path j) (Try.c61 j) (Try.x61.snap j).es
  | .s0 attempt_t1 spent_t3 seed_t4 o_t5 => of_triv (rs := Try.x61.rs) (snap := Try.x61.snap) (c := Try.c61 (.s0 attempt_t1 spent_t3 seed_t4 o_t5)) (by kernel_rfl)
noncomputable def Try.m61 : Mir Try.prog 61 (GPolicy × Int × ByteArray × Int × Int) (Int × Bool) where
  fs := [.agg (List.replicate 10 none), .one none, .one none, .one none, .one none]
  ga := fun x => [.val (.agg ((GPolicy.cs x.1).map R.c)), .val (.one (.c (.int .i64 x.2.1))), .val (.one (.c (.str x.2.2.1))), .val (.one (.c (.int .i64 x.2.2.2.1))), .val (.one (.c (.int .i64 x.2.2.2.2)))]
  caps := fun x => []
  res := Try.x61.res
  outs := Try.x61.outs
  R := fun x y => Runs (Try.a61 x.1 x.2.1 x.2.2.1 x.2.2.2.1 x.2.2.2.2) (KOf (fun j => Ev (Try.c61) j y) y)
  ok := fun x y h => sys_ok (cx := Try.x61) (body := Try.b61) Try.follow Try.func61 (by kernel_rfl) (by kernel_rfl) (by kernel_rfl) (by kernel_rfl) _ (Nat.le_of_ble_eq_true rfl) (by kernel_rfl) _ (Try.h61 x.1 x.2.1 x.2.2.1 x.2.2.2.1 x.2.2.2.2) (Try.g61) y h
  flat := true
  hflat := fun _ _ => flatE rfl
/-! ### 134 workflow/workflowref20.in -/
noncomputable def Try.b134 : Code := Try.f134.body.getD .skip
noncomputable def Try.x134 : Cx Empty Bool where
  nt := 15
  rvs := [.tmp 6]
  mh := []
  res := fun y => [.one (.c (.bool y))]
  outs := fun y => []
  path := fun j => nomatch j
  sig := fun j => nomatch j
  snap := fun j => nomatch j
noncomputable def Try.a134 (n_0 : Int) (low_1 : Int) (high_2 : Int) : Cert Try.prog Empty Bool :=
    .ite 10 (decide (low_1 ≤ n_0))
    (.ret (decide (n_0 ≤ high_2)))
    (.ret false)
noncomputable def Try.c134 : Empty → Cert Try.prog Empty Bool := fun j => nomatch j
theorem Try.h134 (n_0 : Int) (low_1 : Int) (high_2 : Int) : execC Try.prog Try.x134 Try.b134 [] (topC Try.prog Try.x134) (Try.a134 n_0 low_1 high_2) (ES.init [.val (.one (.c (.int .i64 n_0))), .val (.one (.c (.int .i64 low_1))), .val (.one (.c (.int .i64 high_2)))]) :=
  of_triv (rs := Try.x134.rs) (snap := Try.x134.snap) (c := Try.a134 n_0 low_1 high_2) (by kernel_rfl)
theorem Try.g134 : ∀ j, chkAt Try.prog Try.x134 Try.b134 (Try.x134.path j) (Try.c134 j) (Try.x134.snap j).es := fun j => nomatch j
noncomputable def Try.m134 : Mir Try.prog 134 (Int × Int × Int) Bool where
  fs := [.one none, .one none, .one none]
  ga := fun x => [.val (.one (.c (.int .i64 x.1))), .val (.one (.c (.int .i64 x.2.1))), .val (.one (.c (.int .i64 x.2.2)))]
  caps := fun x => []
  res := Try.x134.res
  outs := Try.x134.outs
  R := fun x y => Runs (Try.a134 x.1 x.2.1 x.2.2) (KOf (fun j => Ev (Try.c134) j y) y)
  ok := fun x y h => sys_ok (cx := Try.x134) (body := Try.b134) Try.follow Try.func134 (by kernel_rfl) (by kernel_rfl) (by kernel_rfl) (by kernel_rfl) _ (Nat.le_of_ble_eq_true rfl) (by kernel_rfl) _ (Try.h134 x.1 x.2.1 x.2.2) (Try.g134) y h
  flat := true
  hflat := fun _ _ => flatE rfl
/-! ### 65 workflow/workflowref20.RightPolicy -/
inductive Try.J65 where
  | s0 (o_t1 : GPolicy) (l_t3 : List Int) (i_t4 : Int)
  | s1 (o_t1 : GPolicy) (i_t5 : Int)
noncomputable def Try.b65 : Code := Try.f65.body.getD .skip
noncomputable def Try.x65 : Cx Try.J65 Bool where
  nt := 69
  rvs := [.tmp 2]
  mh := []
  res := fun y => [.one (.c (.bool y))]
  outs := fun y => []
  path := fun
    | .s0 _ _ _ => [0, 1, 0, 1, 1]
    | .s1 _ _ => [0, 1, 0, 1, 1, 1]
  sig := fun
    | .s0 _ _ _ => [1, 3, 4]
    | .s1 _ _ => [1, 5]
  snap := fun
    | .s0 o_t1 l_t3 i_t4 => ⟨[(1, .one (.ptr 0 1 0)), (3, .one (.own 1 1)), (4, .one (.c (.int .i64 i_t4)))], [((0, 1), .box ((GPolicy.cs o_t1).map A.c)), ((1, 1), .arr 3 1 (E.i64.L l_t3))]⟩
    | .s1 o_t1 i_t5 => ⟨[(1, .one (.ptr 0 1 0)), (5, .one (.c (.int .i64 i_t5)))], [((0, 1), .box ((GPolicy.cs o_t1).map A.c))]⟩
noncomputable def Try.a65 (o_0 : GPolicy) : Cert Try.prog Try.J65 Bool :=
    .bld E.i64 [o_0.ToStart, o_0.ToClose, o_0.Total, o_0.Beat, o_0.First, o_0.Most] <|
    .jump (.s0 o_0 [o_0.ToStart, o_0.ToClose, o_0.Total, o_0.Beat, o_0.First, o_0.Most] 0) [(1000, 1), (18000, 1)]
noncomputable def Try.c65 : Try.J65 → Cert Try.prog Try.J65 Bool
  | .s0 o_t1 l_t3 i_t4 =>
    .len E.i64 l_t3 <|
    .ite 22 (decide (i_t4 < (l_t3.length : Int)))
    (.idx E.i64 l_t3 i_t4 <|
    .eget E.i64 l_t3 i_t4.toNat fun a1 =>
    .call Try.m134 (a1, 0, 1099511627776) fun r2 =>
    .ite 30 (!r2)
    (.ret false)
    (.jump (.s0 o_t1 l_t3 (IntKind.i64.wrap (i_t4 + 1))) [(0, 1), (1, 1)]))
    (.jump (.s1 o_t1 0) [(0, 1)])
  | .s1 o_t1 i_t5 =>
    .len E.str o_t1.Fatal <|
    .ite 35 (decide (i_t5 < (o_t1.Fatal.length : Int)))
    (.elem E.str o_t1.Fatal i_t5 fun a3 =>
    .ite 44 (decide (4096 < (a3.size : Int)))
    (.ret false)
    (.jump (.s1 o_t1 (IntKind.i64.wrap (i_t5 + 1))) [(0, 1)]))
    (.ite 48 (strEq o_t1.Queue (⟨#[]⟩ : ByteArray))
    (.call Try.m134 (o_t1.Coef, 0, 10000) fun r4 =>
    .ite 58 r4
    (.call Try.m134 (o_t1.Attempts, 0, 1000) fun r5 =>
    .ite 63 r5
    (.len E.str o_t1.Fatal <|
    .ret (decide ((o_t1.Fatal.length : Int) ≤ 64)))
    (.ret false))
    (.ret false))
    (.call Try.m135 o_t1.Queue fun r6 =>
    .ite 53 r6
    (.call Try.m134 (o_t1.Coef, 0, 10000) fun r7 =>
    .ite 58 r7
    (.call Try.m134 (o_t1.Attempts, 0, 1000) fun r8 =>
    .ite 63 r8
    (.len E.str o_t1.Fatal <|
    .ret (decide ((o_t1.Fatal.length : Int) ≤ 64)))
    (.ret false))
    (.ret false))
    (.ret false)))
theorem Try.h65 (o_0 : GPolicy) : execC Try.prog Try.x65 Try.b65 [] (topC Try.prog Try.x65) (Try.a65 o_0) (ES.init [.val (.agg ((GPolicy.cs o_0).map R.c))]) :=
  of_triv (rs := Try.x65.rs) (snap := Try.x65.snap) (c := Try.a65 o_0) (by kernel_rfl)
theorem Try.g65 : ∀ j, chkAt Try.prog Try.x65 Try.b65 (Try.x65.path j) (Try.c65 j) (Try.x65.snap j).es
  | .s0 o_t1 l_t3 i_t4 => of_triv (rs := Try.x65.rs) (snap := Try.x65.snap) (c := Try.c65 (.s0 o_t1 l_t3 i_t4)) (by kernel_rfl)
  | .s1 o_t1 i_t5 => of_triv (rs := Try.x65.rs) (snap := Try.x65.snap) (c := Try.c65 (.s1 o_t1 i_t5)) (by kernel_rfl)
noncomputable def Try.m65 : Mir Try.prog 65 GPolicy Bool where
  fs := [.agg (List.replicate 10 none)]
  ga := fun x => [.val (.agg ((GPolicy.cs x).map R.c))]
  caps := fun x => []
  res := Try.x65.res
  outs := Try.x65.outs
  R := fun x y => Runs (Try.a65 x) (KOf (fun j => Ev (Try.c65) j y) y)
  ok := fun x y h => sys_ok (cx := Try.x65) (body := Try.b65) Try.follow Try.func65 (by kernel_rfl) (by kernel_rfl) (by kernel_rfl) (by kernel_rfl) _ (Nat.le_of_ble_eq_true rfl) (by kernel_rfl) _ (Try.h65 x) (Try.g65) y h
  flat := true
  hflat := fun _ _ => flatE rfl
/-! ### 68 workflow/workflowref34.Default -/
inductive Try.J68 where
  | s0 (t2 : GPolicy) (out_t3 : GPolicy)
  | s1 (t2 : GPolicy) (out_t3 : GPolicy)
noncomputable def Try.b68 : Code := Try.f68.body.getD .skip
noncomputable def Try.x68 : Cx Try.J68 GPolicy where
  nt := 34
  rvs := [.cell 2 27]
  mh := []
  res := fun y => [.agg (((GPolicy.cs y).map R.c).set 9 (.own 9 1 (E.str.L y.Fatal)))]
  outs := fun y => []
  path := fun
    | .s0 _ _ => [1, 1, 1, 1, 1]
    | .s1 _ _ => [1, 1, 1, 1, 1, 1]
  sig := fun
    | .s0 _ _ => [2, 3]
    | .s1 _ _ => [2, 3]
  snap := fun
    | .s0 t2 out_t3 => ⟨[(2, .one (.ptr 0 1 0)), (3, .one (.ptr 1 1 0))], [((0, 1), .box (((GPolicy.cs t2).map A.c).set 9 .nil)), ((1, 1), .box (((GPolicy.cs out_t3).map A.c).set 9 (.own 2 1))), ((2, 1), .arr 9 1 (E.str.L out_t3.Fatal))]⟩
    | .s1 t2 out_t3 => ⟨[(2, .one (.ptr 0 1 0)), (3, .one (.ptr 1 1 0))], [((0, 1), .box (((GPolicy.cs t2).map A.c).set 9 .nil)), ((1, 1), .box (((GPolicy.cs out_t3).map A.c).set 9 (.own 2 1))), ((2, 1), .arr 9 1 (E.str.L out_t3.Fatal))]⟩
noncomputable def Try.a68 (o_0 : GPolicy) : Cert Try.prog Try.J68 GPolicy :=
    .bld E.str [] <|
    .app E.str 16 [] o_0.Fatal <|
    .call Try.m65 o_0 fun r1 =>
    .ite 12 (!r1)
    (.ret (GPolicy.mk o_0.Queue o_0.ToStart o_0.ToClose o_0.Total o_0.Beat o_0.First o_0.Coef o_0.Most o_0.Attempts ([] ++ o_0.Fatal)))
    (.ite 16 (o_0.First == 0)
    (.jump (.s0 (GPolicy.mk (⟨#[]⟩ : ByteArray) 0 0 0 0 0 0 0 0 []) (GPolicy.mk o_0.Queue o_0.ToStart o_0.ToClose o_0.Total o_0.Beat 1 o_0.Coef o_0.Most o_0.Attempts ([] ++ o_0.Fatal))) [(2000, 1), (3000, 1), (8000, 1)])
    (.jump (.s0 (GPolicy.mk (⟨#[]⟩ : ByteArray) 0 0 0 0 0 0 0 0 []) (GPolicy.mk o_0.Queue o_0.ToStart o_0.ToClose o_0.Total o_0.Beat o_0.First o_0.Coef o_0.Most o_0.Attempts ([] ++ o_0.Fatal))) [(2000, 1), (3000, 1), (8000, 1)]))
noncomputable def Try.c68 : Try.J68 → Cert Try.prog Try.J68 GPolicy
  | .s0 t2 out_t3 =>
    .ite 20 (out_t3.Coef == 0)
    (.jump (.s1 (GPolicy.mk t2.Queue t2.ToStart t2.ToClose t2.Total t2.Beat t2.First t2.Coef t2.Most t2.Attempts []) (GPolicy.mk out_t3.Queue out_t3.ToStart out_t3.ToClose out_t3.Total out_t3.Beat out_t3.First 200 out_t3.Most out_t3.Attempts out_t3.Fatal)) [(0, 1), (1, 1), (2, 1)])
    (.jump (.s1 (GPolicy.mk t2.Queue t2.ToStart t2.ToClose t2.Total t2.Beat t2.First t2.Coef t2.Most t2.Attempts []) out_t3) [(0, 1), (1, 1), (2, 1)])
  | .s1 t2 out_t3 =>
    .ite 24 (out_t3.Most == 0)
    (.ite 28 (decide (out_t3.First ≤ 10995116277))
    (.ret (GPolicy.mk out_t3.Queue out_t3.ToStart out_t3.ToClose out_t3.Total out_t3.Beat out_t3.First out_t3.Coef (IntKind.i64.wrap (100 * out_t3.First)) out_t3.Attempts out_t3.Fatal))
    (.ret (GPolicy.mk out_t3.Queue out_t3.ToStart out_t3.ToClose out_t3.Total out_t3.Beat out_t3.First out_t3.Coef 1099511627776 out_t3.Attempts out_t3.Fatal)))
    (.ret out_t3)
theorem Try.h68 (o_0 : GPolicy) : execC Try.prog Try.x68 Try.b68 [] (topC Try.prog Try.x68) (Try.a68 o_0) (ES.init [.val (.agg ((GPolicy.cs o_0).map R.c))]) :=
  of_triv (rs := Try.x68.rs) (snap := Try.x68.snap) (c := Try.a68 o_0) (by kernel_rfl)
theorem Try.g68 : ∀ j, chkAt Try.prog Try.x68 Try.b68 (Try.x68.path j) (Try.c68 j) (Try.x68.snap j).es
  | .s0 t2 out_t3 => of_triv (rs := Try.x68.rs) (snap := Try.x68.snap) (c := Try.c68 (.s0 t2 out_t3)) (by kernel_rfl)
  | .s1 t2 out_t3 => of_triv (rs := Try.x68.rs) (snap := Try.x68.snap) (c := Try.c68 (.s1 t2 out_t3)) (by kernel_rfl)
noncomputable def Try.m68 : Mir Try.prog 68 GPolicy GPolicy where
  fs := [.agg (List.replicate 10 none)]
  ga := fun x => [.val (.agg ((GPolicy.cs x).map R.c))]
  caps := fun x => []
  res := Try.x68.res
  outs := Try.x68.outs
  R := fun x y => Runs (Try.a68 x) (KOf (fun j => Ev (Try.c68) j y) y)
  ok := fun x y h => sys_ok (cx := Try.x68) (body := Try.b68) Try.follow Try.func68 (by kernel_rfl) (by kernel_rfl) (by kernel_rfl) (by kernel_rfl) _ (Nat.le_of_ble_eq_true rfl) (by kernel_rfl) _ (Try.h68 x) (Try.g68) y h
  flat := false
  hflat := fun h => nomatch h
/-! ### 60 workflow/workflowref34.Delay -/
inductive Try.J60 where
  | s0 (attempt_t1 : Int) (seed_t2 : Int) (d_t7 : GPolicy) (x_t8 : Int) (n_t9 : Int)
  | s1 (attempt_t1 : Int) (seed_t2 : Int) (x_t8 : Int)
noncomputable def Try.b60 : Code := Try.f60.body.getD .skip
noncomputable def Try.x60 : Cx Try.J60 Int where
  nt := 49
  rvs := [.tmp 6]
  mh := []
  res := fun y => [.one (.c (.int .i64 y))]
  outs := fun y => []
  path := fun
    | .s0 _ _ _ _ _ => [0, 1, 0, 1, 1, 1, 1]
    | .s1 _ _ _ => [1, 1, 1, 1, 1]
  sig := fun
    | .s0 _ _ _ _ _ => [1, 2, 7, 8, 9]
    | .s1 _ _ _ => [1, 2, 8]
  snap := fun
    | .s0 attempt_t1 seed_t2 d_t7 x_t8 n_t9 => ⟨[(1, .one (.c (.int .i64 attempt_t1))), (2, .one (.c (.int .i64 seed_t2))), (7, .one (.ptr 0 1 0)), (8, .one (.c (.int .i64 x_t8))), (9, .one (.c (.int .i64 n_t9)))], [((0, 1), .box (((GPolicy.cs d_t7).map A.c).set 9 (.own 1 1))), ((1, 1), .arr 9 1 (E.str.L d_t7.Fatal))]⟩
    | .s1 attempt_t1 seed_t2 x_t8 => ⟨[(1, .one (.c (.int .i64 attempt_t1))), (2, .one (.c (.int .i64 seed_t2))), (8, .one (.c (.int .i64 x_t8)))], []⟩
noncomputable def Try.a60 (o_0 : GPolicy) (attempt_1 : Int) (seed_2 : Int) : Cert Try.prog Try.J60 Int :=
    .call Try.m65 o_0 fun r1 =>
    .ite 13 (!r1)
    (.ret 0)
    (.ite 16 (decide (attempt_1 < 1))
    (.ret 0)
    (.call Try.m68 o_0 fun r2 =>
    .jump (.s0 attempt_1 seed_2 r2 (if r2.Most < r2.First then r2.Most else r2.First) 2) [(7000, 1), (18009, 1)]))
noncomputable def Try.c60 : Try.J60 → Cert Try.prog Try.J60 Int
  | .s0 attempt_t1 seed_t2 d_t7 x_t8 n_t9 =>
    .ite 27 (decide (n_t9 ≤ attempt_t1))
    (.ite 30 (decide (n_t9 ≤ 1000))
    (.dvd 100 <|
    .jump (.s0 attempt_t1 seed_t2 d_t7 (if d_t7.Most < (IntKind.i64.wrap (Int.tdiv (IntKind.i64.wrap (x_t8 * d_t7.Coef)) 100)) then d_t7.Most else (IntKind.i64.wrap (Int.tdiv (IntKind.i64.wrap (x_t8 * d_t7.Coef)) 100))) (IntKind.i64.wrap (n_t9 + 1))) [(0, 1), (1, 1)])
    (.jump (.s1 attempt_t1 seed_t2 x_t8) []))
    (.jump (.s1 attempt_t1 seed_t2 x_t8) [])
  | .s1 attempt_t1 seed_t2 x_t8 =>
    .ite 42 (decide (0 < seed_t2))
    (.call Try.m132 (seed_t2, attempt_t1, x_t8, 10) fun r3 =>
    .ret (if 1099511627776 < r3 then 1099511627776 else r3))
    (.ret x_t8)
theorem Try.h60 (o_0 : GPolicy) (attempt_1 : Int) (seed_2 : Int) : execC Try.prog Try.x60 Try.b60 [] (topC Try.prog Try.x60) (Try.a60 o_0 attempt_1 seed_2) (ES.init [.val (.agg ((GPolicy.cs o_0).map R.c)), .val (.one (.c (.int .i64 attempt_1))), .val (.one (.c (.int .i64 seed_2)))]) :=
  of_triv (rs := Try.x60.rs) (snap := Try.x60.snap) (c := Try.a60 o_0 attempt_1 seed_2) (by kernel_rfl)
theorem Try.g60 : ∀ j, chkAt Try.prog Try.x60 Try.b60 (Try.x60.path j) (Try.c60 j) (Try.x60.snap j).es
  | .s0 attempt_t1 seed_t2 d_t7 x_t8 n_t9 => of_triv (rs := Try.x60.rs) (snap := Try.x60.snap) (c := Try.c60 (.s0 attempt_t1 seed_t2 d_t7 x_t8 n_t9)) (by kernel_rfl)
  | .s1 attempt_t1 seed_t2 x_t8 => of_triv (rs := Try.x60.rs) (snap := Try.x60.snap) (c := Try.c60 (.s1 attempt_t1 seed_t2 x_t8)) (by kernel_rfl)
noncomputable def Try.m60 : Mir Try.prog 60 (GPolicy × Int × Int) Int where
  fs := [.agg (List.replicate 10 none), .one none, .one none]
  ga := fun x => [.val (.agg ((GPolicy.cs x.1).map R.c)), .val (.one (.c (.int .i64 x.2.1))), .val (.one (.c (.int .i64 x.2.2)))]
  caps := fun x => []
  res := Try.x60.res
  outs := Try.x60.outs
  R := fun x y => Runs (Try.a60 x.1 x.2.1 x.2.2) (KOf (fun j => Ev (Try.c60) j y) y)
  ok := fun x y h => sys_ok (cx := Try.x60) (body := Try.b60) Try.follow Try.func60 (by kernel_rfl) (by kernel_rfl) (by kernel_rfl) (by kernel_rfl) _ (Nat.le_of_ble_eq_true rfl) (by kernel_rfl) _ (Try.h60 x.1 x.2.1 x.2.2) (Try.g60) y h
  flat := true
  hflat := fun _ _ => flatE rfl
/-! ### 64 workflow/workflowref34.Fatal -/
inductive Try.J64 where
  | s0 (failure_t1 : ByteArray) (t8 : List ByteArray) (t9 : Int) (t10 : Int)
noncomputable def Try.b64 : Code := Try.f64.body.getD .skip
noncomputable def Try.x64 : Cx Try.J64 Bool where
  nt := 18
  rvs := [.tmp 4]
  mh := []
  res := fun y => [.one (.c (.bool y))]
  outs := fun y => []
  path := fun
    | .s0 _ _ _ _ => [0, 1, 0, 1]
  sig := fun
    | .s0 _ _ _ _ => [1, 8, 9, 10]
  snap := fun
    | .s0 failure_t1 t8 t9 t10 => ⟨[(1, .one (.c (.str failure_t1))), (8, .one (.c (.sl (E.str.L t8)))), (9, .one (.c (.int .i64 t9))), (10, .one (.c (.int .i64 t10)))], []⟩
noncomputable def Try.a64 (o_0 : GPolicy) (failure_1 : ByteArray) : Cert Try.prog Try.J64 Bool :=
    .len E.str o_0.Fatal <|
    .jump (.s0 failure_1 o_0.Fatal (o_0.Fatal.length : Int) 0) []
noncomputable def Try.c64 : Try.J64 → Cert Try.prog Try.J64 Bool
  | .s0 failure_t1 t8 t9 t10 =>
    .ite 11 (decide (t10 < t9))
    (.elem E.str t8 t10 fun a1 =>
    .ite 16 (strEq a1 failure_t1)
    (.ret true)
    (.jump (.s0 failure_t1 t8 t9 (IntKind.i64.wrap (t10 + 1))) []))
    (.ret false)
theorem Try.h64 (o_0 : GPolicy) (failure_1 : ByteArray) : execC Try.prog Try.x64 Try.b64 [] (topC Try.prog Try.x64) (Try.a64 o_0 failure_1) (ES.init [.val (.agg ((GPolicy.cs o_0).map R.c)), .val (.one (.c (.str failure_1)))]) :=
  of_triv (rs := Try.x64.rs) (snap := Try.x64.snap) (c := Try.a64 o_0 failure_1) (by kernel_rfl)
theorem Try.g64 : ∀ j, chkAt Try.prog Try.x64 Try.b64 (Try.x64.path j) (Try.c64 j) (Try.x64.snap j).es
  | .s0 failure_t1 t8 t9 t10 => of_triv (rs := Try.x64.rs) (snap := Try.x64.snap) (c := Try.c64 (.s0 failure_t1 t8 t9 t10)) (by kernel_rfl)
noncomputable def Try.m64 : Mir Try.prog 64 (GPolicy × ByteArray) Bool where
  fs := [.agg (List.replicate 10 none), .one none]
  ga := fun x => [.val (.agg ((GPolicy.cs x.1).map R.c)), .val (.one (.c (.str x.2)))]
  caps := fun x => []
  res := Try.x64.res
  outs := Try.x64.outs
  R := fun x y => Runs (Try.a64 x.1 x.2) (KOf (fun j => Ev (Try.c64) j y) y)
  ok := fun x y h => sys_ok (cx := Try.x64) (body := Try.b64) Try.follow Try.func64 (by kernel_rfl) (by kernel_rfl) (by kernel_rfl) (by kernel_rfl) _ (Nat.le_of_ble_eq_true rfl) (by kernel_rfl) _ (Try.h64 x.1 x.2) (Try.g64) y h
  flat := true
  hflat := fun _ _ => flatE rfl
/-! ### 62 workflow/workflowref34.Again -/
inductive Try.J62 where
  | s0 (attempt_t1 : Int) (spent_t3 : Int) (seed_t4 : Int) (o_t5 : GPolicy)
noncomputable def Try.b62 : Code := Try.f62.body.getD .skip
noncomputable def Try.x62 : Cx Try.J62 (Int × Bool) where
  nt := 58
  rvs := [.tmp 10, .tmp 11]
  mh := []
  res := fun y => [.one (.c (.int .i64 y.1)), .one (.c (.bool y.2))]
  outs := fun y => []
  path := fun
    | .s0 _ _ _ _ => [1, 1, 1]
  sig := fun
    | .s0 _ _ _ _ => [1, 3, 4, 5]
  snap := fun
    | .s0 attempt_t1 spent_t3 seed_t4 o_t5 => ⟨[(1, .one (.c (.int .i64 attempt_t1))), (3, .one (.c (.int .i64 spent_t3))), (4, .one (.c (.int .i64 seed_t4))), (5, .one (.ptr 0 1 0))], [((0, 1), .box ((GPolicy.cs o_t5).map A.c))]⟩
noncomputable def Try.a62 (o_0 : GPolicy) (attempt_1 : Int) (failure_2 : ByteArray) (spent_3 : Int) (seed_4 : Int) : Cert Try.prog Try.J62 (Int × Bool) :=
    .call Try.m65 o_0 fun r1 =>
    .ite 16 (!r1)
    (.ret (0, false))
    (.ite 20 (decide (attempt_1 < 1))
    (.ret (0, false))
    (.ite 24 (decide (spent_3 < 0))
    (.ret (0, false))
    (.call Try.m64 (o_0, failure_2) fun r2 =>
    .ite 28 r2
    (.ret (0, false))
    (.ite 32 (decide (0 < o_0.Attempts))
    (.ite 38 (decide (o_0.Attempts ≤ attempt_1))
    (.ret (0, false))
    (.ite 41 (decide (1000 ≤ attempt_1))
    (.ret (0, false))
    (.jump (.s0 attempt_1 spent_3 seed_4 o_0) [(5000, 1)])))
    (.ite 41 (decide (1000 ≤ attempt_1))
    (.ret (0, false))
    (.jump (.s0 attempt_1 spent_3 seed_4 o_0) [(5000, 1)]))))))
noncomputable def Try.c62 : Try.J62 → Cert Try.prog Try.J62 (Int × Bool)
  | .s0 attempt_t1 spent_t3 seed_t4 o_t5 =>
    .call Try.m60 (o_t5, attempt_t1, seed_t4) fun r3 =>
    .ite 49 (decide (0 < o_t5.Total))
    (.ite 56 (decide ((IntKind.i64.wrap (o_t5.Total - spent_t3)) ≤ r3))
    (.ret (0, false))
    (.ret (r3, true)))
    (.ret (r3, true))
theorem Try.h62 (o_0 : GPolicy) (attempt_1 : Int) (failure_2 : ByteArray) (spent_3 : Int) (seed_4 : Int) : execC Try.prog Try.x62 Try.b62 [] (topC Try.prog Try.x62) (Try.a62 o_0 attempt_1 failure_2 spent_3 seed_4) (ES.init [.val (.agg ((GPolicy.cs o_0).map R.c)), .val (.one (.c (.int .i64 attempt_1))), .val (.one (.c (.str failure_2))), .val (.one (.c (.int .i64 spent_3))), .val (.one (.c (.int .i64 seed_4)))]) :=
  of_triv (rs := Try.x62.rs) (snap := Try.x62.snap) (c := Try.a62 o_0 attempt_1 failure_2 spent_3 seed_4) (by kernel_rfl)
theorem Try.g62 : ∀ j, chkAt Try.prog Try.x62 Try.b62 (Try.x62.path j) (Try.c62 j) (Try.x62.snap j).es
  | .s0 attempt_t1 spent_t3 seed_t4 o_t5 => of_triv (rs := Try.x62.rs) (snap := Try.x62.snap) (c := Try.c62 (.s0 attempt_t1 spent_t3 seed_t4 o_t5)) (by kernel_rfl)
noncomputable def Try.m62 : Mir Try.prog 62 (GPolicy × Int × ByteArray × Int × Int) (Int × Bool) where
  fs := [.agg (List.replicate 10 none), .one none, .one none, .one none, .one none]
  ga := fun x => [.val (.agg ((GPolicy.cs x.1).map R.c)), .val (.one (.c (.int .i64 x.2.1))), .val (.one (.c (.str x.2.2.1))), .val (.one (.c (.int .i64 x.2.2.2.1))), .val (.one (.c (.int .i64 x.2.2.2.2)))]
  caps := fun x => []
  res := Try.x62.res
  outs := Try.x62.outs
  R := fun x y => Runs (Try.a62 x.1 x.2.1 x.2.2.1 x.2.2.2.1 x.2.2.2.2) (KOf (fun j => Ev (Try.c62) j y) y)
  ok := fun x y h => sys_ok (cx := Try.x62) (body := Try.b62) Try.follow Try.func62 (by kernel_rfl) (by kernel_rfl) (by kernel_rfl) (by kernel_rfl) _ (Nat.le_of_ble_eq_true rfl) (by kernel_rfl) _ (Try.h62 x.1 x.2.1 x.2.2.1 x.2.2.2.1 x.2.2.2.2) (Try.g62) y h
  flat := true
  hflat := fun _ _ => flatE rfl
end Go.Proofs
