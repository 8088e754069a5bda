/- Printed by pr.py. -/
import Derived.Test.YtlgnflbekdldnaaAvTV
set_option linter.unusedVariables false
set_option maxRecDepth 100000
set_option maxHeartbeats 2000000
namespace Go.Proofs
open Go Go.AV
/-! ### 69 workflow/workflowlaw33.small -/
inductive Try.J69 where
  | s0 (l_t0 : List GAdmit) (i_t3 : Int)
noncomputable def Try.b69 : Code := Try.f69.body.getD .skip
noncomputable def Try.x69 : Cx Try.J69 Bool where
  nt := 20
  rvs := [.tmp 2]
  mh := []
  res := fun y => [.one (.c (.bool y))]
  outs := fun y => []
  path := fun
    | .s0 _ _ => [0, 1, 0, 1, 1]
  sig := fun
    | .s0 _ _ => [0, 3]
  snap := fun
    | .s0 l_t0 i_t3 => ⟨[(0, .one (.c (.sl (E.GAdmit.L l_t0)))), (3, .one (.c (.int .i64 i_t3)))], []⟩
noncomputable def Try.a69 (l_0 : List GAdmit) : Cert Try.prog Try.J69 Bool :=
    .len E.GAdmit l_0 <|
    .ite 6 (decide (220 < (l_0.length : Int)))
    (.ret false)
    (.jump (.s0 l_0 0) [])
noncomputable def Try.c69 : Try.J69 → Cert Try.prog Try.J69 Bool
  | .s0 l_t0 i_t3 =>
    .len E.GAdmit l_t0 <|
    .ite 10 (decide (i_t3 < (l_t0.length : Int)))
    (.elem E.GAdmit l_t0 i_t3 fun a1 =>
    .call Try.m70 a1.Data fun r2 =>
    .ite 19 (decide (200 < r2))
    (.ret false)
    (.jump (.s0 l_t0 (IntKind.i64.wrap (i_t3 + 1))) []))
    (.ret true)
theorem Try.h69 (l_0 : List GAdmit) : execC Try.prog Try.x69 Try.b69 [] (topC Try.prog Try.x69) (Try.a69 l_0) (ES.init [.val (.one (.c (.sl (E.GAdmit.L l_0))))]) :=
  of_triv (rs := Try.x69.rs) (snap := Try.x69.snap) (c := Try.a69 l_0) (by kernel_rfl)
theorem Try.g69 : ∀ j, chkAt Try.prog Try.x69 Try.b69 (Try.x69.path j) (Try.c69 j) (Try.x69.snap j).es
  | .s0 l_t0 i_t3 => of_triv (rs := Try.x69.rs) (snap := Try.x69.snap) (c := Try.c69 (.s0 l_t0 i_t3)) (by kernel_rfl)
noncomputable def Try.m69 : Mir Try.prog 69 (List GAdmit) Bool where
  fs := [.one none]
  ga := fun x => [.val (.one (.c (.sl (E.GAdmit.L x))))]
  caps := fun x => []
  res := Try.x69.res
  outs := Try.x69.outs
  R := fun x y => Runs (Try.a69 x) (KOf (fun j => Ev (Try.c69) j y) y)
  ok := fun x y h => sys_ok (cx := Try.x69) (body := Try.b69) Try.follow Try.func69 (by kernel_rfl) (by kernel_rfl) (by kernel_rfl) (by kernel_rfl) _ (Nat.le_of_ble_eq_true rfl) (by kernel_rfl) _ (Try.h69 x) (Try.g69) y h
  flat := true
  hflat := fun _ _ => flatE rfl
/-! ### 73 workflow/workflowlaw33.admits -/
inductive Try.J73 where
  | s0 (a_t0 : List GAdmit) (b_t1 : List GAdmit) (i_t5 : Int)
noncomputable def Try.b73 : Code := Try.f73.body.getD .skip
noncomputable def Try.x73 : Cx Try.J73 Bool where
  nt := 55
  rvs := [.tmp 4]
  mh := []
  res := fun y => [.one (.c (.bool y))]
  outs := fun y => []
  path := fun
    | .s0 _ _ _ => [0, 1, 0, 1, 1]
  sig := fun
    | .s0 _ _ _ => [0, 1, 5]
  snap := fun
    | .s0 a_t0 b_t1 i_t5 => ⟨[(0, .one (.c (.sl (E.GAdmit.L a_t0)))), (1, .one (.c (.sl (E.GAdmit.L b_t1)))), (5, .one (.c (.int .i64 i_t5)))], []⟩
noncomputable def Try.a73 (a_0 : List GAdmit) (b_1 : List GAdmit) : Cert Try.prog Try.J73 Bool :=
    .len E.GAdmit a_0 <|
    .len E.GAdmit b_1 <|
    .ite 10 ((a_0.length : Int) != (b_1.length : Int))
    (.ret false)
    (.jump (.s0 a_0 b_1 0) [])
noncomputable def Try.c73 : Try.J73 → Cert Try.prog Try.J73 Bool
  | .s0 a_t0 b_t1 i_t5 =>
    .len E.GAdmit a_t0 <|
    .ite 14 (decide (i_t5 < (a_t0.length : Int)))
    (.elem E.GAdmit a_t0 i_t5 fun a1 =>
    .elem E.GAdmit b_t1 i_t5 fun a2 =>
    .ite 28 (!strEq a1.Key a2.Key)
    (.ret false)
    (.elem E.GAdmit a_t0 i_t5 fun a3 =>
    .elem E.GAdmit b_t1 i_t5 fun a4 =>
    .ite 41 (!strEq a3.Name a4.Name)
    (.ret false)
    (.elem E.GAdmit a_t0 i_t5 fun a5 =>
    .elem E.GAdmit b_t1 i_t5 fun a6 =>
    .call Try.m56 (a5.Data, a6.Data) fun r7 =>
    .ite 54 (!r7)
    (.ret false)
    (.jump (.s0 a_t0 b_t1 (IntKind.i64.wrap (i_t5 + 1))) []))))
    (.ret true)
theorem Try.h73 (a_0 : List GAdmit) (b_1 : List GAdmit) : execC Try.prog Try.x73 Try.b73 [] (topC Try.prog Try.x73) (Try.a73 a_0 b_1) (ES.init [.val (.one (.c (.sl (E.GAdmit.L a_0)))), .val (.one (.c (.sl (E.GAdmit.L b_1))))]) :=
  of_triv (rs := Try.x73.rs) (snap := Try.x73.snap) (c := Try.a73 a_0 b_1) (by kernel_rfl)
theorem Try.g73 : ∀ j, chkAt Try.prog Try.x73 Try.b73 (Try.x73.path j) (Try.c73 j) (Try.x73.snap j).es
  | .s0 a_t0 b_t1 i_t5 => of_triv (rs := Try.x73.rs) (snap := Try.x73.snap) (c := Try.c73 (.s0 a_t0 b_t1 i_t5)) (by kernel_rfl)
noncomputable def Try.m73 : Mir Try.prog 73 ((List GAdmit) × (List GAdmit)) Bool where
  fs := [.one none, .one none]
  ga := fun x => [.val (.one (.c (.sl (E.GAdmit.L x.1)))), .val (.one (.c (.sl (E.GAdmit.L x.2))))]
  caps := fun x => []
  res := Try.x73.res
  outs := Try.x73.outs
  R := fun x y => Runs (Try.a73 x.1 x.2) (KOf (fun j => Ev (Try.c73) j y) y)
  ok := fun x y h => sys_ok (cx := Try.x73) (body := Try.b73) Try.follow Try.func73 (by kernel_rfl) (by kernel_rfl) (by kernel_rfl) (by kernel_rfl) _ (Nat.le_of_ble_eq_true rfl) (by kernel_rfl) _ (Try.h73 x.1 x.2) (Try.g73) y h
  flat := true
  hflat := fun _ _ => flatE rfl
/-! ### 149 workflow/workflowref33.listed -/
inductive Try.J149 where
  | s0 (l_t0 : List GAdmit) (key_t1 : ByteArray) (i_t5 : Int)
noncomputable def Try.b149 : Code := Try.f149.body.getD .skip
noncomputable def Try.x149 : Cx Try.J149 Bool where
  nt := 19
  rvs := [.tmp 4]
  mh := []
  res := fun y => [.one (.c (.bool y))]
  outs := fun y => []
  path := fun
    | .s0 _ _ _ => [0, 1, 0, 1]
  sig := fun
    | .s0 _ _ _ => [0, 1, 5]
  snap := fun
    | .s0 l_t0 key_t1 i_t5 => ⟨[(0, .one (.c (.sl (E.GAdmit.L l_t0)))), (1, .one (.c (.str key_t1))), (5, .one (.c (.int .i64 i_t5)))], []⟩
noncomputable def Try.a149 (l_0 : List GAdmit) (key_1 : ByteArray) : Cert Try.prog Try.J149 Bool :=
    .jump (.s0 l_0 key_1 0) []
noncomputable def Try.c149 : Try.J149 → Cert Try.prog Try.J149 Bool
  | .s0 l_t0 key_t1 i_t5 =>
    .len E.GAdmit l_t0 <|
    .ite 9 (decide (i_t5 < (l_t0.length : Int)))
    (.elem E.GAdmit l_t0 i_t5 fun a1 =>
    .ite 18 (strEq a1.Key key_t1)
    (.ret true)
    (.jump (.s0 l_t0 key_t1 (IntKind.i64.wrap (i_t5 + 1))) []))
    (.ret false)
theorem Try.h149 (l_0 : List GAdmit) (key_1 : ByteArray) : execC Try.prog Try.x149 Try.b149 [] (topC Try.prog Try.x149) (Try.a149 l_0 key_1) (ES.init [.val (.one (.c (.sl (E.GAdmit.L l_0)))), .val (.one (.c (.str key_1)))]) :=
  of_triv (rs := Try.x149.rs) (snap := Try.x149.snap) (c := Try.a149 l_0 key_1) (by kernel_rfl)
theorem Try.g149 : ∀ j, chkAt Try.prog Try.x149 Try.b149 (Try.x149.path j) (Try.c149 j) (Try.x149.snap j).es
  | .s0 l_t0 key_t1 i_t5 => of_triv (rs := Try.x149.rs) (snap := Try.x149.snap) (c := Try.c149 (.s0 l_t0 key_t1 i_t5)) (by kernel_rfl)
noncomputable def Try.m149 : Mir Try.prog 149 ((List GAdmit) × ByteArray) Bool where
  fs := [.one none, .one none]
  ga := fun x => [.val (.one (.c (.sl (E.GAdmit.L x.1)))), .val (.one (.c (.str x.2)))]
  caps := fun x => []
  res := Try.x149.res
  outs := Try.x149.outs
  R := fun x y => Runs (Try.a149 x.1 x.2) (KOf (fun j => Ev (Try.c149) j y) y)
  ok := fun x y h => sys_ok (cx := Try.x149) (body := Try.b149) Try.follow Try.func149 (by kernel_rfl) (by kernel_rfl) (by kernel_rfl) (by kernel_rfl) _ (Nat.le_of_ble_eq_true rfl) (by kernel_rfl) _ (Try.h149 x.1 x.2) (Try.g149) y h
  flat := true
  hflat := fun _ _ => flatE rfl
abbrev Try.Clo182 : Type := Clo Try.prog GAdmit Bool [.agg (List.replicate 7 none)] (fun x => [.val (.agg ((GAdmit.cs x).map R.c))]) (fun y => [.one (.c (.bool y))])
noncomputable def Try.clo182 (c : Try.Clo182) := Clo.mir c true (fun _ _ => flatE rfl)
/-! ### 223 slices.IndexFunc[[]workflow/api.Admit,workflow/api.Admit] -/
inductive Try.J223 where
  | s0 (s_t0 : List GAdmit) (f_t1 : Try.Clo182) (t7 : Int) (t8 : Int)
noncomputable def Try.b223 : Code := Try.f223.body.getD .skip
noncomputable def Try.x223 : Cx Try.J223 Int where
  nt := 19
  rvs := [.tmp 4]
  mh := []
  res := fun y => [.one (.c (.int .i64 y))]
  outs := fun y => []
  path := fun
    | .s0 _ _ _ _ => [0, 1, 0, 1]
  sig := fun
    | .s0 _ _ _ _ => [0, 1, 7, 8]
  snap := fun
    | .s0 s_t0 f_t1 t7 t8 => ⟨[(0, .one (.c (.sl (E.GAdmit.L s_t0)))), (1, .one (.c (.fn f_t1.f f_t1.caps))), (7, .one (.c (.int .i64 t7))), (8, .one (.c (.int .i64 t8)))], []⟩
noncomputable def Try.a223 (s_0 : List GAdmit) (f_1 : Try.Clo182) : Cert Try.prog Try.J223 Int :=
    .len E.GAdmit s_0 <|
    .jump (.s0 s_0 f_1 (s_0.length : Int) 0) []
noncomputable def Try.c223 : Try.J223 → Cert Try.prog Try.J223 Int
  | .s0 s_t0 f_t1 t7 t8 =>
    .ite 9 (decide (t8 < t7))
    (.elem E.GAdmit s_t0 t8 fun a1 =>
    .call (Try.clo182 f_t1) a1 fun r2 =>
    .ite 16 r2
    (.ret t8)
    (.jump (.s0 s_t0 f_t1 t7 (IntKind.i64.wrap (t8 + 1))) []))
    (.ret (-1))
theorem Try.h223 (s_0 : List GAdmit) (f_1 : Try.Clo182) : execC Try.prog Try.x223 Try.b223 [] (topC Try.prog Try.x223) (Try.a223 s_0 f_1) (ES.init [.val (.one (.c (.sl (E.GAdmit.L s_0)))), .val (.one (.c (.fn f_1.f f_1.caps)))]) :=
  of_triv (rs := Try.x223.rs) (snap := Try.x223.snap) (c := Try.a223 s_0 f_1) (by kernel_rfl)
theorem Try.g223 : ∀ j, chkAt Try.prog Try.x223 Try.b223 (Try.x223.path j) (Try.c223 j) (Try.x223.snap j).es
  | .s0 s_t0 f_t1 t7 t8 => of_triv (rs := Try.x223.rs) (snap := Try.x223.snap) (c := Try.c223 (.s0 s_t0 f_t1 t7 t8)) (by kernel_rfl)
noncomputable def Try.m223 : Mir Try.prog 223 ((List GAdmit) × Try.Clo182) Int where
  fs := [.one none, .one none]
  ga := fun x => [.val (.one (.c (.sl (E.GAdmit.L x.1)))), .val (.one (.c (.fn x.2.f x.2.caps)))]
  caps := fun x => []
  res := Try.x223.res
  outs := Try.x223.outs
  R := fun x y => Runs (Try.a223 x.1 x.2) (KOf (fun j => Ev (Try.c223) j y) y)
  ok := fun x y h => sys_ok (cx := Try.x223) (body := Try.b223) Try.follow Try.func223 (by kernel_rfl) (by kernel_rfl) (by kernel_rfl) (by kernel_rfl) _ (Nat.le_of_ble_eq_true rfl) (by kernel_rfl) _ (Try.h223 x.1 x.2) (Try.g223) y h
  flat := true
  hflat := fun _ _ => flatE rfl
/-! ### 197 slices.ContainsFunc[[]workflow/api.Admit,workflow/api.Admit] -/
noncomputable def Try.b197 : Code := Try.f197.body.getD .skip
noncomputable def Try.x197 : Cx Empty Bool where
  nt := 9
  rvs := [.tmp 4]
  mh := []
  res := fun y => [.one (.c (.bool y))]
  outs := fun y => []
  path := fun j => nomatch j
  sig := fun j => nomatch j
  snap := fun j => nomatch j
noncomputable def Try.a197 (s_0 : List GAdmit) (f_1 : Try.Clo182) : Cert Try.prog Empty Bool :=
    .call Try.m223 (s_0, f_1) fun r1 =>
    .ret (decide (0 ≤ r1))
noncomputable def Try.c197 : Empty → Cert Try.prog Empty Bool := fun j => nomatch j
theorem Try.h197 (s_0 : List GAdmit) (f_1 : Try.Clo182) : execC Try.prog Try.x197 Try.b197 [] (topC Try.prog Try.x197) (Try.a197 s_0 f_1) (ES.init [.val (.one (.c (.sl (E.GAdmit.L s_0)))), .val (.one (.c (.fn f_1.f f_1.caps)))]) :=
  of_triv (rs := Try.x197.rs) (snap := Try.x197.snap) (c := Try.a197 s_0 f_1) (by kernel_rfl)
theorem Try.g197 : ∀ j, chkAt Try.prog Try.x197 Try.b197 (Try.x197.path j) (Try.c197 j) (Try.x197.snap j).es := fun j => nomatch j
noncomputable def Try.m197 : Mir Try.prog 197 ((List GAdmit) × Try.Clo182) Bool where
  fs := [.one none, .one none]
  ga := fun x => [.val (.one (.c (.sl (E.GAdmit.L x.1)))), .val (.one (.c (.fn x.2.f x.2.caps)))]
  caps := fun x => []
  res := Try.x197.res
  outs := Try.x197.outs
  R := fun x y => Runs (Try.a197 x.1 x.2) (KOf (fun j => Ev (Try.c197) j y) y)
  ok := fun x y h => sys_ok (cx := Try.x197) (body := Try.b197) Try.follow Try.func197 (by kernel_rfl) (by kernel_rfl) (by kernel_rfl) (by kernel_rfl) _ (Nat.le_of_ble_eq_true rfl) (by kernel_rfl) _ (Try.h197 x.1 x.2) (Try.g197) y h
  flat := true
  hflat := fun _ _ => flatE rfl
/-! ### 198 workflow/update.admitted$1 -/
noncomputable def Try.b198 : Code := Try.f198.body.getD .skip
noncomputable def Try.x198 : Cx Empty Bool where
  nt := 8
  rvs := [.tmp 3]
  mh := []
  res := fun y => [.one (.c (.bool y))]
  outs := fun y => []
  path := fun j => nomatch j
  sig := fun j => nomatch j
  snap := fun j => nomatch j
noncomputable def Try.a198 (a_0 : GAdmit) (cap0 : ByteArray) : Cert Try.prog Empty Bool :=
    .ret (strEq a_0.Key cap0)
noncomputable def Try.c198 : Empty → Cert Try.prog Empty Bool := fun j => nomatch j
theorem Try.h198 (a_0 : GAdmit) (cap0 : ByteArray) : execC Try.prog Try.x198 Try.b198 [] (topC Try.prog Try.x198) (Try.a198 a_0 cap0) (ES.init [.val (.agg ((GAdmit.cs a_0).map R.c)), .val (.one (.c (.ptr [(.str cap0)])))]) :=
  of_triv (rs := Try.x198.rs) (snap := Try.x198.snap) (c := Try.a198 a_0 cap0) (by kernel_rfl)
theorem Try.g198 : ∀ j, chkAt Try.prog Try.x198 Try.b198 (Try.x198.path j) (Try.c198 j) (Try.x198.snap j).es := fun j => nomatch j
noncomputable def Try.m198 : Mir Try.prog 198 (GAdmit × ByteArray) Bool where
  fs := [.agg (List.replicate 7 none)]
  ga := fun x => [.val (.agg ((GAdmit.cs x.1).map R.c))]
  caps := fun x => [(.ptr [(.str x.2)])]
  res := Try.x198.res
  outs := Try.x198.outs
  R := fun x y => Runs (Try.a198 x.1 x.2) (KOf (fun j => Ev (Try.c198) j y) y)
  ok := fun x y h => sys_ok (cx := Try.x198) (body := Try.b198) Try.follow Try.func198 (by kernel_rfl) (by kernel_rfl) (by kernel_rfl) (by kernel_rfl) _ (Nat.le_of_ble_eq_true rfl) (by kernel_rfl) _ (Try.h198 x.1 x.2) (Try.g198) y h
  flat := true
  hflat := fun _ _ => flatE rfl
/-! ### 141 workflow/update.admitted -/
noncomputable def Try.b141 : Code := Try.f141.body.getD .skip
noncomputable def Try.x141 : Cx Empty Bool where
  nt := 8
  rvs := [.tmp 4]
  mh := []
  res := fun y => [.one (.c (.bool y))]
  outs := fun y => []
  path := fun j => nomatch j
  sig := fun j => nomatch j
  snap := fun j => nomatch j
noncomputable def Try.a141 (l_0 : List GAdmit) (key_1 : ByteArray) : Cert Try.prog Empty Bool :=
    .call Try.m197 (l_0, (⟨198, [(.ptr [(.str key_1)])], fun a b => Try.m198.R (a, key_1) b, fun a b h => Try.m198.ok (a, key_1) b h⟩ : Try.Clo182)) fun r1 =>
    .ret r1
noncomputable def Try.c141 : Empty → Cert Try.prog Empty Bool := fun j => nomatch j
theorem Try.h141 (l_0 : List GAdmit) (key_1 : ByteArray) : execC Try.prog Try.x141 Try.b141 [] (topC Try.prog Try.x141) (Try.a141 l_0 key_1) (ES.init [.val (.one (.c (.sl (E.GAdmit.L l_0)))), .val (.one (.c (.str key_1)))]) :=
  of_triv (rs := Try.x141.rs) (snap := Try.x141.snap) (c := Try.a141 l_0 key_1) (by kernel_rfl)
theorem Try.g141 : ∀ j, chkAt Try.prog Try.x141 Try.b141 (Try.x141.path j) (Try.c141 j) (Try.x141.snap j).es := fun j => nomatch j
noncomputable def Try.m141 : Mir Try.prog 141 ((List GAdmit) × ByteArray) Bool where
  fs := [.one none, .one none]
  ga := fun x => [.val (.one (.c (.sl (E.GAdmit.L x.1)))), .val (.one (.c (.str x.2)))]
  caps := fun x => []
  res := Try.x141.res
  outs := Try.x141.outs
  R := fun x y => Runs (Try.a141 x.1 x.2) (KOf (fun j => Ev (Try.c141) j y) y)
  ok := fun x y h => sys_ok (cx := Try.x141) (body := Try.b141) Try.follow Try.func141 (by kernel_rfl) (by kernel_rfl) (by kernel_rfl) (by kernel_rfl) _ (Nat.le_of_ble_eq_true rfl) (by kernel_rfl) _ (Try.h141 x.1 x.2) (Try.g141) y h
  flat := true
  hflat := fun _ _ => flatE rfl
/-! ### 138 workflow/update.identifier -/
inductive Try.J138 where
  | s0 (s_t0 : ByteArray) (t6 : List Int) (t7 : Int) (t8 : Int)
noncomputable def Try.b138 : Code := Try.f138.body.getD .skip
noncomputable def Try.x138 : Cx Try.J138 Bool where
  nt := 34
  rvs := [.tmp 2]
  mh := []
  res := fun y => [.one (.c (.bool y))]
  outs := fun y => []
  path := fun
    | .s0 _ _ _ _ => [0, 1, 0, 1]
  sig := fun
    | .s0 _ _ _ _ => [0, 6, 7, 8]
  snap := fun
    | .s0 s_t0 t6 t7 t8 => ⟨[(0, .one (.c (.str s_t0))), (6, .one (.c (.sl (E.u8.L t6)))), (7, .one (.c (.int .i64 t7))), (8, .one (.c (.int .i64 t8)))], []⟩
noncomputable def Try.a138 (s_0 : ByteArray) : Cert Try.prog Try.J138 Bool :=
    .len E.u8 (bytesL s_0) <|
    .jump (.s0 s_0 (bytesL s_0) ((bytesL s_0).length : Int) 0) []
noncomputable def Try.c138 : Try.J138 → Cert Try.prog Try.J138 Bool
  | .s0 s_t0 t6 t7 t8 =>
    .ite 9 (decide (t8 < t7))
    (.elem E.u8 t6 t8 fun a1 =>
    .ite 14 (decide (a1 < 33))
    (.ret false)
    (.ite 18 (decide (126 < a1))
    (.ret false)
    (.ite 22 (a1 == 47)
    (.ret false)
    (.ite 25 (a1 == 34)
    (.ret false)
    (.jump (.s0 s_t0 t6 t7 (IntKind.i64.wrap (t8 + 1))) [])))))
    (.ite 29 (!strEq s_t0 (⟨#[]⟩ : ByteArray))
    (.ret (decide ((s_t0.size : Int) ≤ 64)))
    (.ret false))
theorem Try.h138 (s_0 : ByteArray) : execC Try.prog Try.x138 Try.b138 [] (topC Try.prog Try.x138) (Try.a138 s_0) (ES.init [.val (.one (.c (.str s_0)))]) :=
  of_triv (rs := Try.x138.rs) (snap := Try.x138.snap) (c := Try.a138 s_0) (by kernel_rfl)
theorem Try.g138 : ∀ j, chkAt Try.prog Try.x138 Try.b138 (Try.x138.path j) (Try.c138 j) (Try.x138.snap j).es
  | .s0 s_t0 t6 t7 t8 => of_triv (rs := Try.x138.rs) (snap := Try.x138.snap) (c := Try.c138 (.s0 s_t0 t6 t7 t8)) (by kernel_rfl)
noncomputable def Try.m138 : Mir Try.prog 138 ByteArray Bool where
  fs := [.one none]
  ga := fun x => [.val (.one (.c (.str x)))]
  caps := fun x => []
  res := Try.x138.res
  outs := Try.x138.outs
  R := fun x y => Runs (Try.a138 x) (KOf (fun j => Ev (Try.c138) j y) y)
  ok := fun x y h => sys_ok (cx := Try.x138) (body := Try.b138) Try.follow Try.func138 (by kernel_rfl) (by kernel_rfl) (by kernel_rfl) (by kernel_rfl) _ (Nat.le_of_ble_eq_true rfl) (by kernel_rfl) _ (Try.h138 x) (Try.g138) y h
  flat := true
  hflat := fun _ _ => flatE rfl
/-! ### 146 workflow/update.copied -/
noncomputable def Try.b146 : Code := Try.f146.body.getD .skip
noncomputable def Try.x146 : Cx Empty GAdmit where
  nt := 8
  rvs := [.cell 2 81]
  mh := []
  res := fun y => [.agg ((((GAdmit.cs y).map R.c).set 5 (.own 25 5 (E.GVal.L y.Data.Items))).set 6 (.own 9 1 (E.str.L y.Data.Keys)))]
  outs := fun y => []
  path := fun j => nomatch j
  sig := fun j => nomatch j
  snap := fun j => nomatch j
noncomputable def Try.a146 (a_0 : GAdmit) : Cert Try.prog Empty GAdmit :=
    .call Try.m153 a_0.Data fun r1 =>
    .ret (GAdmit.mk a_0.Key a_0.Name r1)
noncomputable def Try.c146 : Empty → Cert Try.prog Empty GAdmit := fun j => nomatch j
theorem Try.h146 (a_0 : GAdmit) : execC Try.prog Try.x146 Try.b146 [] (topC Try.prog Try.x146) (Try.a146 a_0) (ES.init [.val (.agg ((GAdmit.cs a_0).map R.c))]) :=
  of_triv (rs := Try.x146.rs) (snap := Try.x146.snap) (c := Try.a146 a_0) (by kernel_rfl)
theorem Try.g146 : ∀ j, chkAt Try.prog Try.x146 Try.b146 (Try.x146.path j) (Try.c146 j) (Try.x146.snap j).es := fun j => nomatch j
noncomputable def Try.m146 : Mir Try.prog 146 GAdmit GAdmit where
  fs := [.agg (List.replicate 7 none)]
  ga := fun x => [.val (.agg ((GAdmit.cs x).map R.c))]
  caps := fun x => []
  res := Try.x146.res
  outs := Try.x146.outs
  R := fun x y => Runs (Try.a146 x) (KOf (fun j => Ev (Try.c146) j y) y)
  ok := fun x y h => sys_ok (cx := Try.x146) (body := Try.b146) Try.follow Try.func146 (by kernel_rfl) (by kernel_rfl) (by kernel_rfl) (by kernel_rfl) _ (Nat.le_of_ble_eq_true rfl) (by kernel_rfl) _ (Try.h146 x) (Try.g146) y h
  flat := false
  hflat := fun h => nomatch h
/-! ### 144 workflow/update.keep -/
inductive Try.J144 where
  | s0 (good_t1 : Try.Clo182) (out_t5 : List GAdmit) (t8 : List GAdmit) (t9 : Int) (t10 : Int)
noncomputable def Try.b144 : Code := Try.f144.body.getD .skip
noncomputable def Try.x144 : Cx Try.J144 (List GAdmit) where
  nt := 24
  rvs := [.tmp 4]
  mh := []
  res := fun y => [.one (.own 81 7 (E.GAdmit.L y))]
  outs := fun y => []
  path := fun
    | .s0 _ _ _ _ _ => [0, 1, 0, 1, 1]
  sig := fun
    | .s0 _ _ _ _ _ => [1, 5, 8, 9, 10]
  snap := fun
    | .s0 good_t1 out_t5 t8 t9 t10 => ⟨[(1, .one (.c (.fn good_t1.f good_t1.caps))), (5, .one (.own 0 1)), (8, .one (.c (.sl (E.GAdmit.L t8)))), (9, .one (.c (.int .i64 t9))), (10, .one (.c (.int .i64 t10)))], [((0, 1), .arr 81 7 (E.GAdmit.L out_t5))]⟩
noncomputable def Try.a144 (l_0 : List GAdmit) (good_1 : Try.Clo182) : Cert Try.prog Try.J144 (List GAdmit) :=
    .len E.GAdmit l_0 <|
    .adoptT 5 81 7 <|
    .jump (.s0 good_1 [] l_0 (l_0.length : Int) 0) [(5999, 1)]
noncomputable def Try.c144 : Try.J144 → Cert Try.prog Try.J144 (List GAdmit)
  | .s0 good_t1 out_t5 t8 t9 t10 =>
    .ite 11 (decide (t10 < t9))
    (.elem E.GAdmit t8 t10 fun a1 =>
    .call (Try.clo182 good_t1) a1 fun r2 =>
    .ite 16 r2
    (.call Try.m146 a1 fun r3 =>
    .bld E.GAdmit [r3] <|
    .app E.GAdmit 112 out_t5 [r3] <|
    .jump (.s0 good_t1 (out_t5 ++ [r3]) t8 t9 (IntKind.i64.wrap (t10 + 1))) [(21000, 2)])
    (.jump (.s0 good_t1 out_t5 t8 t9 (IntKind.i64.wrap (t10 + 1))) [(0, 1)]))
    (.ret out_t5)
theorem Try.h144 (l_0 : List GAdmit) (good_1 : Try.Clo182) : execC Try.prog Try.x144 Try.b144 [] (topC Try.prog Try.x144) (Try.a144 l_0 good_1) (ES.init [.val (.one (.c (.sl (E.GAdmit.L l_0)))), .val (.one (.c (.fn good_1.f good_1.caps)))]) :=
  of_triv (rs := Try.x144.rs) (snap := Try.x144.snap) (c := Try.a144 l_0 good_1) (by kernel_rfl)
theorem Try.g144 : ∀ j, chkAt Try.prog Try.x144 Try.b144 (Try.x144.path j) (Try.c144 j) (Try.x144.snap j).es
  | .s0 good_t1 out_t5 t8 t9 t10 => of_triv (rs := Try.x144.rs) (snap := Try.x144.snap) (c := Try.c144 (.s0 good_t1 out_t5 t8 t9 t10)) (by kernel_rfl)
noncomputable def Try.m144 : Mir Try.prog 144 ((List GAdmit) × Try.Clo182) (List GAdmit) where
  fs := [.one none, .one none]
  ga := fun x => [.val (.one (.c (.sl (E.GAdmit.L x.1)))), .val (.one (.c (.fn x.2.f x.2.caps)))]
  caps := fun x => []
  res := Try.x144.res
  outs := Try.x144.outs
  R := fun x y => Runs (Try.a144 x.1 x.2) (KOf (fun j => Ev (Try.c144) j y) y)
  ok := fun x y h => sys_ok (cx := Try.x144) (body := Try.b144) Try.follow Try.func144 (by kernel_rfl) (by kernel_rfl) (by kernel_rfl) (by kernel_rfl) _ (Nat.le_of_ble_eq_true rfl) (by kernel_rfl) _ (Try.h144 x.1 x.2) (Try.g144) y h
  flat := false
  hflat := fun h => nomatch h
/-! ### 145 workflow/update.all -/
noncomputable def Try.b145 : Code := Try.f145.body.getD .skip
noncomputable def Try.x145 : Cx Empty Bool where
  nt := 3
  rvs := [.tmp 2]
  mh := []
  res := fun y => [.one (.c (.bool y))]
  outs := fun y => []
  path := fun j => nomatch j
  sig := fun j => nomatch j
  snap := fun j => nomatch j
noncomputable def Try.a145 (p0 : GAdmit) : Cert Try.prog Empty Bool :=
    .ret true
noncomputable def Try.c145 : Empty → Cert Try.prog Empty Bool := fun j => nomatch j
theorem Try.h145 (p0 : GAdmit) : execC Try.prog Try.x145 Try.b145 [] (topC Try.prog Try.x145) (Try.a145 p0) (ES.init [.val (.agg ((GAdmit.cs p0).map R.c))]) :=
  of_triv (rs := Try.x145.rs) (snap := Try.x145.snap) (c := Try.a145 p0) (by kernel_rfl)
theorem Try.g145 : ∀ j, chkAt Try.prog Try.x145 Try.b145 (Try.x145.path j) (Try.c145 j) (Try.x145.snap j).es := fun j => nomatch j
noncomputable def Try.m145 : Mir Try.prog 145 GAdmit Bool where
  fs := [.agg (List.replicate 7 none)]
  ga := fun x => [.val (.agg ((GAdmit.cs x).map R.c))]
  caps := fun x => []
  res := Try.x145.res
  outs := Try.x145.outs
  R := fun x y => Runs (Try.a145 x) (KOf (fun j => Ev (Try.c145) j y) y)
  ok := fun x y h => sys_ok (cx := Try.x145) (body := Try.b145) Try.follow Try.func145 (by kernel_rfl) (by kernel_rfl) (by kernel_rfl) (by kernel_rfl) _ (Nat.le_of_ble_eq_true rfl) (by kernel_rfl) _ (Try.h145 x) (Try.g145) y h
  flat := true
  hflat := fun _ _ => flatE rfl
abbrev Try.Clo180 : Type := Clo Try.prog GUpd Bool [.agg (List.replicate 2 none)] (fun x => [.val (.agg ((GUpd.cs x).map R.c))]) (fun y => [.one (.c (.bool y))])
noncomputable def Try.clo180 (c : Try.Clo180) := Clo.mir c true (fun _ _ => flatE rfl)
/-! ### 199 slices.IndexFunc[[]workflow/api.Upd,workflow/api.Upd] -/
inductive Try.J199 where
  | s0 (s_t0 : List GUpd) (f_t1 : Try.Clo180) (t7 : Int) (t8 : Int)
noncomputable def Try.b199 : Code := Try.f199.body.getD .skip
noncomputable def Try.x199 : Cx Try.J199 Int where
  nt := 19
  rvs := [.tmp 4]
  mh := []
  res := fun y => [.one (.c (.int .i64 y))]
  outs := fun y => []
  path := fun
    | .s0 _ _ _ _ => [0, 1, 0, 1]
  sig := fun
    | .s0 _ _ _ _ => [0, 1, 7, 8]
  snap := fun
    | .s0 s_t0 f_t1 t7 t8 => ⟨[(0, .one (.c (.sl (E.GUpd.L s_t0)))), (1, .one (.c (.fn f_t1.f f_t1.caps))), (7, .one (.c (.int .i64 t7))), (8, .one (.c (.int .i64 t8)))], []⟩
noncomputable def Try.a199 (s_0 : List GUpd) (f_1 : Try.Clo180) : Cert Try.prog Try.J199 Int :=
    .len E.GUpd s_0 <|
    .jump (.s0 s_0 f_1 (s_0.length : Int) 0) []
noncomputable def Try.c199 : Try.J199 → Cert Try.prog Try.J199 Int
  | .s0 s_t0 f_t1 t7 t8 =>
    .ite 9 (decide (t8 < t7))
    (.elem E.GUpd s_t0 t8 fun a1 =>
    .call (Try.clo180 f_t1) a1 fun r2 =>
    .ite 16 r2
    (.ret t8)
    (.jump (.s0 s_t0 f_t1 t7 (IntKind.i64.wrap (t8 + 1))) []))
    (.ret (-1))
theorem Try.h199 (s_0 : List GUpd) (f_1 : Try.Clo180) : execC Try.prog Try.x199 Try.b199 [] (topC Try.prog Try.x199) (Try.a199 s_0 f_1) (ES.init [.val (.one (.c (.sl (E.GUpd.L s_0)))), .val (.one (.c (.fn f_1.f f_1.caps)))]) :=
  of_triv (rs := Try.x199.rs) (snap := Try.x199.snap) (c := Try.a199 s_0 f_1) (by kernel_rfl)
theorem Try.g199 : ∀ j, chkAt Try.prog Try.x199 Try.b199 (Try.x199.path j) (Try.c199 j) (Try.x199.snap j).es
  | .s0 s_t0 f_t1 t7 t8 => of_triv (rs := Try.x199.rs) (snap := Try.x199.snap) (c := Try.c199 (.s0 s_t0 f_t1 t7 t8)) (by kernel_rfl)
noncomputable def Try.m199 : Mir Try.prog 199 ((List GUpd) × Try.Clo180) Int where
  fs := [.one none, .one none]
  ga := fun x => [.val (.one (.c (.sl (E.GUpd.L x.1)))), .val (.one (.c (.fn x.2.f x.2.caps)))]
  caps := fun x => []
  res := Try.x199.res
  outs := Try.x199.outs
  R := fun x y => Runs (Try.a199 x.1 x.2) (KOf (fun j => Ev (Try.c199) j y) y)
  ok := fun x y h => sys_ok (cx := Try.x199) (body := Try.b199) Try.follow Try.func199 (by kernel_rfl) (by kernel_rfl) (by kernel_rfl) (by kernel_rfl) _ (Nat.le_of_ble_eq_true rfl) (by kernel_rfl) _ (Try.h199 x.1 x.2) (Try.g199) y h
  flat := true
  hflat := fun _ _ => flatE rfl
/-! ### 142 slices.ContainsFunc[[]workflow/api.Upd,workflow/api.Upd] -/
noncomputable def Try.b142 : Code := Try.f142.body.getD .skip
noncomputable def Try.x142 : Cx Empty Bool where
  nt := 9
  rvs := [.tmp 4]
  mh := []
  res := fun y => [.one (.c (.bool y))]
  outs := fun y => []
  path := fun j => nomatch j
  sig := fun j => nomatch j
  snap := fun j => nomatch j
noncomputable def Try.a142 (s_0 : List GUpd) (f_1 : Try.Clo180) : Cert Try.prog Empty Bool :=
    .call Try.m199 (s_0, f_1) fun r1 =>
    .ret (decide (0 ≤ r1))
noncomputable def Try.c142 : Empty → Cert Try.prog Empty Bool := fun j => nomatch j
theorem Try.h142 (s_0 : List GUpd) (f_1 : Try.Clo180) : execC Try.prog Try.x142 Try.b142 [] (topC Try.prog Try.x142) (Try.a142 s_0 f_1) (ES.init [.val (.one (.c (.sl (E.GUpd.L s_0)))), .val (.one (.c (.fn f_1.f f_1.caps)))]) :=
  of_triv (rs := Try.x142.rs) (snap := Try.x142.snap) (c := Try.a142 s_0 f_1) (by kernel_rfl)
theorem Try.g142 : ∀ j, chkAt Try.prog Try.x142 Try.b142 (Try.x142.path j) (Try.c142 j) (Try.x142.snap j).es := fun j => nomatch j
noncomputable def Try.m142 : Mir Try.prog 142 ((List GUpd) × Try.Clo180) Bool where
  fs := [.one none, .one none]
  ga := fun x => [.val (.one (.c (.sl (E.GUpd.L x.1)))), .val (.one (.c (.fn x.2.f x.2.caps)))]
  caps := fun x => []
  res := Try.x142.res
  outs := Try.x142.outs
  R := fun x y => Runs (Try.a142 x.1 x.2) (KOf (fun j => Ev (Try.c142) j y) y)
  ok := fun x y h => sys_ok (cx := Try.x142) (body := Try.b142) Try.follow Try.func142 (by kernel_rfl) (by kernel_rfl) (by kernel_rfl) (by kernel_rfl) _ (Nat.le_of_ble_eq_true rfl) (by kernel_rfl) _ (Try.h142 x.1 x.2) (Try.g142) y h
  flat := true
  hflat := fun _ _ => flatE rfl
/-! ### 143 workflow/update.Admit$1 -/
noncomputable def Try.b143 : Code := Try.f143.body.getD .skip
noncomputable def Try.x143 : Cx Empty Bool where
  nt := 9
  rvs := [.tmp 3]
  mh := []
  res := fun y => [.one (.c (.bool y))]
  outs := fun y => []
  path := fun j => nomatch j
  sig := fun j => nomatch j
  snap := fun j => nomatch j
noncomputable def Try.a143 (u_0 : GUpd) (cap0 : GAdmit) : Cert Try.prog Empty Bool :=
    .ret (strEq u_0.Key cap0.Key)
noncomputable def Try.c143 : Empty → Cert Try.prog Empty Bool := fun j => nomatch j
theorem Try.h143 (u_0 : GUpd) (cap0 : GAdmit) : execC Try.prog Try.x143 Try.b143 [] (topC Try.prog Try.x143) (Try.a143 u_0 cap0) (ES.init [.val (.agg ((GUpd.cs u_0).map R.c)), .val (.one (.c (.ptr (GAdmit.cs cap0))))]) :=
  of_triv (rs := Try.x143.rs) (snap := Try.x143.snap) (c := Try.a143 u_0 cap0) (by kernel_rfl)
theorem Try.g143 : ∀ j, chkAt Try.prog Try.x143 Try.b143 (Try.x143.path j) (Try.c143 j) (Try.x143.snap j).es := fun j => nomatch j
noncomputable def Try.m143 : Mir Try.prog 143 (GUpd × GAdmit) Bool where
  fs := [.agg (List.replicate 2 none)]
  ga := fun x => [.val (.agg ((GUpd.cs x.1).map R.c))]
  caps := fun x => [(.ptr (GAdmit.cs x.2))]
  res := Try.x143.res
  outs := Try.x143.outs
  R := fun x y => Runs (Try.a143 x.1 x.2) (KOf (fun j => Ev (Try.c143) j y) y)
  ok := fun x y h => sys_ok (cx := Try.x143) (body := Try.b143) Try.follow Try.func143 (by kernel_rfl) (by kernel_rfl) (by kernel_rfl) (by kernel_rfl) _ (Nat.le_of_ble_eq_true rfl) (by kernel_rfl) _ (Try.h143 x.1 x.2) (Try.g143) y h
  flat := true
  hflat := fun _ _ => flatE rfl
/-! ### 71 workflow/update.Admit -/
inductive Try.J71 where
  | s0 (l_t0 : List GAdmit) (p_t4 : GPending) (a_t5 : GAdmit) (t32 : Bool)
noncomputable def Try.b71 : Code := Try.f71.body.getD .skip
noncomputable def Try.x71 : Cx Try.J71 ((List GAdmit) × Bool × Int) where
  nt := 47
  rvs := [.tmp 6, .tmp 7, .tmp 8]
  mh := []
  res := fun y => [.one (.own 81 7 (E.GAdmit.L y.1)), .one (.c (.bool y.2.1)), .one (.c (.int .i64 y.2.2))]
  outs := fun y => []
  path := fun
    | .s0 _ _ _ _ => [1, 0, 1, 1, 1]
  sig := fun
    | .s0 _ _ _ _ => [0, 4, 5, 32]
  snap := fun
    | .s0 l_t0 p_t4 a_t5 t32 => ⟨[(0, .one (.c (.sl (E.GAdmit.L l_t0)))), (4, .one (.ptr 0 1 0)), (5, .one (.ptr 1 1 0)), (32, .one (.c (.bool t32)))], [((0, 1), .box ((GPending.cs p_t4).map A.c)), ((1, 1), .box ((GAdmit.cs a_t5).map A.c))]⟩
noncomputable def Try.a71 (l_0 : List GAdmit) (p_1 : GPending) (a_2 : GAdmit) : Cert Try.prog Try.J71 ((List GAdmit) × Bool × Int) :=
    .call Try.m138 a_2.Key fun r1 =>
    .ite 13 (!r1)
    (.ret ([], false, 8))
    (.call Try.m139 a_2.Name fun r2 =>
    .ite 18 (!r2)
    (.ret ([], false, 8))
    (.call (Try.m140 Try.m217.R Try.m217.ok Try.m218.R Try.m218.ok Try.m219.R Try.m219.ok Try.m196.R Try.m196.ok) a_2.Data fun r3 =>
    .ite 22 (!r3)
    (.ret ([], false, 12))
    (.call Try.m141 (l_0, a_2.Key) fun r4 =>
    .ite 27 r4
    (.jump (.s0 l_0 p_1 a_2 true) [(4000, 1), (5000, 1)])
    (.call Try.m142 (p_1.Updates, (⟨143, [(.ptr (GAdmit.cs a_2))], fun a b => Try.m143.R (a, a_2) b, fun a b h => Try.m143.ok (a, a_2) b h⟩ : Try.Clo180)) fun r5 =>
    .jump (.s0 l_0 p_1 a_2 r5) [(4000, 1), (5000, 1)]))))
noncomputable def Try.c71 : Try.J71 → Cert Try.prog Try.J71 ((List GAdmit) × Bool × Int)
  | .s0 l_t0 p_t4 a_t5 t32 =>
    .ite 32 t32
    (.call Try.m144 (l_t0, (⟨145, [], fun a b => Try.m145.R a b, fun a b h => Try.m145.ok a b h⟩ : Try.Clo182)) fun r6 =>
    .ret (r6, true, 0))
    (.ite 37 (p_t4.Status != 0)
    (.ret ([], false, 17))
    (.len E.GAdmit l_t0 <|
    .ite 40 (decide (200 ≤ (l_t0.length : Int)))
    (.ret ([], false, 18))
    (.call Try.m144 (l_t0, (⟨145, [], fun a b => Try.m145.R a b, fun a b h => Try.m145.ok a b h⟩ : Try.Clo182)) fun r7 =>
    .call (Try.m146).weak a_t5 fun r8 =>
    .bld E.GAdmit [r8] <|
    .app E.GAdmit 112 r7 [r8] <|
    .ret ((r7 ++ [r8]), false, 0))))
theorem Try.h71 (l_0 : List GAdmit) (p_1 : GPending) (a_2 : GAdmit) : execC Try.prog Try.x71 Try.b71 [] (topC Try.prog Try.x71) (Try.a71 l_0 p_1 a_2) (ES.init [.val (.one (.c (.sl (E.GAdmit.L l_0)))), .val (.agg ((GPending.cs p_1).map R.c)), .val (.agg ((GAdmit.cs a_2).map R.c))]) :=
  of_triv (rs := Try.x71.rs) (snap := Try.x71.snap) (c := Try.a71 l_0 p_1 a_2) (by kernel_rfl)
theorem Try.g71 : ∀ j, chkAt Try.prog Try.x71 Try.b71 (Try.x71.path j) (Try.c71 j) (Try.x71.snap j).es
  | .s0 l_t0 p_t4 a_t5 t32 => of_triv (rs := Try.x71.rs) (snap := Try.x71.snap) (c := Try.c71 (.s0 l_t0 p_t4 a_t5 t32)) (by kernel_rfl)
noncomputable def Try.m71 : Mir Try.prog 71 ((List GAdmit) × GPending × GAdmit) ((List GAdmit) × Bool × Int) where
  fs := [.one none, .agg (List.replicate 24 none), .agg (List.replicate 7 none)]
  ga := fun x => [.val (.one (.c (.sl (E.GAdmit.L x.1)))), .val (.agg ((GPending.cs x.2.1).map R.c)), .val (.agg ((GAdmit.cs x.2.2).map R.c))]
  caps := fun x => []
  res := Try.x71.res
  outs := Try.x71.outs
  R := fun x y => Runs (Try.a71 x.1 x.2.1 x.2.2) (KOf (fun j => Ev (Try.c71) j y) y)
  ok := fun x y h => sys_ok (cx := Try.x71) (body := Try.b71) Try.follow Try.func71 (by kernel_rfl) (by kernel_rfl) (by kernel_rfl) (by kernel_rfl) _ (Nat.le_of_ble_eq_true rfl) (by kernel_rfl) _ (Try.h71 x.1 x.2.1 x.2.2) (Try.g71) y h
  flat := false
  hflat := fun h => nomatch h
/-! ### 147 workflow/workflowref21.Ident -/
inductive Try.J147 where
  | s0 (s_t0 : ByteArray) (i_t3 : Int)
noncomputable def Try.b147 : Code := Try.f147.body.getD .skip
noncomputable def Try.x147 : Cx Try.J147 Bool where
  nt := 40
  rvs := [.tmp 2]
  mh := []
  res := fun y => [.one (.c (.bool y))]
  outs := fun y => []
  path := fun
    | .s0 _ _ => [0, 1, 0, 1]
  sig := fun
    | .s0 _ _ => [0, 3]
  snap := fun
    | .s0 s_t0 i_t3 => ⟨[(0, .one (.c (.str s_t0))), (3, .one (.c (.int .i64 i_t3)))], []⟩
noncomputable def Try.a147 (s_0 : ByteArray) : Cert Try.prog Try.J147 Bool :=
    .jump (.s0 s_0 0) []
noncomputable def Try.c147 : Try.J147 → Cert Try.prog Try.J147 Bool
  | .s0 s_t0 i_t3 =>
    .ite 7 (decide (i_t3 < (s_t0.size : Int)))
    (.byte s_t0 i_t3 <|
    .ite 14 (decide ((byteAt s_t0 i_t3.toNat) < 33))
    (.ret false)
    (.byte s_t0 i_t3 <|
    .ite 20 (decide (126 < (byteAt s_t0 i_t3.toNat)))
    (.ret false)
    (.byte s_t0 i_t3 <|
    .ite 26 ((byteAt s_t0 i_t3.toNat) == 47)
    (.ret false)
    (.byte s_t0 i_t3 <|
    .ite 31 ((byteAt s_t0 i_t3.toNat) == 34)
    (.ret false)
    (.jump (.s0 s_t0 (IntKind.i64.wrap (i_t3 + 1))) [])))))
    (.ite 35 (decide (1 ≤ (s_t0.size : Int)))
    (.ret (decide ((s_t0.size : Int) ≤ 64)))
    (.ret false))
theorem Try.h147 (s_0 : ByteArray) : execC Try.prog Try.x147 Try.b147 [] (topC Try.prog Try.x147) (Try.a147 s_0) (ES.init [.val (.one (.c (.str s_0)))]) :=
  of_triv (rs := Try.x147.rs) (snap := Try.x147.snap) (c := Try.a147 s_0) (by kernel_rfl)
theorem Try.g147 : ∀ j, chkAt Try.prog Try.x147 Try.b147 (Try.x147.path j) (Try.c147 j) (Try.x147.snap j).es
  | .s0 s_t0 i_t3 => of_triv (rs := Try.x147.rs) (snap := Try.x147.snap) (c := Try.c147 (.s0 s_t0 i_t3)) (by kernel_rfl)
noncomputable def Try.m147 : Mir Try.prog 147 ByteArray Bool where
  fs := [.one none]
  ga := fun x => [.val (.one (.c (.str x)))]
  caps := fun x => []
  res := Try.x147.res
  outs := Try.x147.outs
  R := fun x y => Runs (Try.a147 x) (KOf (fun j => Ev (Try.c147) j y) y)
  ok := fun x y h => sys_ok (cx := Try.x147) (body := Try.b147) Try.follow Try.func147 (by kernel_rfl) (by kernel_rfl) (by kernel_rfl) (by kernel_rfl) _ (Nat.le_of_ble_eq_true rfl) (by kernel_rfl) _ (Try.h147 x) (Try.g147) y h
  flat := true
  hflat := fun _ _ => flatE rfl
/-! ### 72 workflow/workflowref33.Admit -/
inductive Try.J72 where
  | s0 (l_t0 : List GAdmit) (p_t4 : GPending) (a_t5 : GAdmit) (known_t9 : Bool) (i_t10 : Int)
noncomputable def Try.b72 : Code := Try.f72.body.getD .skip
noncomputable def Try.x72 : Cx Try.J72 ((List GAdmit) × Bool × Int) where
  nt := 65
  rvs := [.tmp 6, .tmp 7, .tmp 8]
  mh := []
  res := fun y => [.one (.c (.sl (E.GAdmit.L y.1))), .one (.c (.bool y.2.1)), .one (.c (.int .i64 y.2.2))]
  outs := fun y => []
  path := fun
    | .s0 _ _ _ _ _ => [0, 1, 0, 1, 1, 1, 1]
  sig := fun
    | .s0 _ _ _ _ _ => [0, 4, 5, 9, 10]
  snap := fun
    | .s0 l_t0 p_t4 a_t5 known_t9 i_t10 => ⟨[(0, .one (.c (.sl (E.GAdmit.L l_t0)))), (4, .one (.ptr 0 1 0)), (5, .one (.ptr 1 1 0)), (9, .one (.c (.bool known_t9))), (10, .one (.c (.int .i64 i_t10)))], [((0, 1), .box ((GPending.cs p_t4).map A.c)), ((1, 1), .box ((GAdmit.cs a_t5).map A.c))]⟩
noncomputable def Try.a72 (l_0 : List GAdmit) (p_1 : GPending) (a_2 : GAdmit) : Cert Try.prog Try.J72 ((List GAdmit) × Bool × Int) :=
    .call Try.m147 a_2.Key fun r1 =>
    .ite 16 (!r1)
    (.ret ([], false, 8))
    (.call Try.m135 a_2.Name fun r2 =>
    .ite 21 (!r2)
    (.ret ([], false, 8))
    (.call (Try.m148 Try.m200.R Try.m200.ok Try.m225.R Try.m225.ok Try.m226.R Try.m226.ok Try.m202.R Try.m202.ok) a_2.Data fun r3 =>
    .ite 25 (!r3)
    (.ret ([], false, 12))
    (.call Try.m149 (l_0, a_2.Key) fun r4 =>
    .jump (.s0 l_0 p_1 a_2 r4 0) [(4000, 1), (5000, 1)])))
noncomputable def Try.c72 : Try.J72 → Cert Try.prog Try.J72 ((List GAdmit) × Bool × Int)
  | .s0 l_t0 p_t4 a_t5 known_t9 i_t10 =>
    .len E.GUpd p_t4.Updates <|
    .ite 34 (decide (i_t10 < (p_t4.Updates.length : Int)))
    (.ite 38 known_t9
    (.jump (.s0 l_t0 p_t4 a_t5 true (IntKind.i64.wrap (i_t10 + 1))) [(0, 1), (1, 1)])
    (.elem E.GUpd p_t4.Updates i_t10 fun a5 =>
    .jump (.s0 l_t0 p_t4 a_t5 (strEq a5.Key a_t5.Key) (IntKind.i64.wrap (i_t10 + 1))) [(0, 1), (1, 1)]))
    (.ite 49 known_t9
    (.ret (l_t0, true, 0))
    (.ite 53 (p_t4.Status != 0)
    (.ret ([], false, 17))
    (.len E.GAdmit l_t0 <|
    .ite 56 (decide (200 ≤ (l_t0.length : Int)))
    (.ret ([], false, 18))
    (.app E.GAdmit 112 [] l_t0 <|
    .bld E.GAdmit [a_t5] <|
    .app E.GAdmit 112 ([] ++ l_t0) [a_t5] <|
    .ret ((([] ++ l_t0) ++ [a_t5]), false, 0)))))
theorem Try.h72 (l_0 : List GAdmit) (p_1 : GPending) (a_2 : GAdmit) : execC Try.prog Try.x72 Try.b72 [] (topC Try.prog Try.x72) (Try.a72 l_0 p_1 a_2) (ES.init [.val (.one (.c (.sl (E.GAdmit.L l_0)))), .val (.agg ((GPending.cs p_1).map R.c)), .val (.agg ((GAdmit.cs a_2).map R.c))]) :=
  of_triv (rs := Try.x72.rs) (snap := Try.x72.snap) (c := Try.a72 l_0 p_1 a_2) (by kernel_rfl)
theorem Try.g72 : ∀ j, chkAt Try.prog Try.x72 Try.b72 (Try.x72.path j) (Try.c72 j) (Try.x72.snap j).es
  | .s0 l_t0 p_t4 a_t5 known_t9 i_t10 => of_triv (rs := Try.x72.rs) (snap := Try.x72.snap) (c := Try.c72 (.s0 l_t0 p_t4 a_t5 known_t9 i_t10)) (by kernel_rfl)
noncomputable def Try.m72 : Mir Try.prog 72 ((List GAdmit) × GPending × GAdmit) ((List GAdmit) × Bool × Int) where
  fs := [.one none, .agg (List.replicate 24 none), .agg (List.replicate 7 none)]
  ga := fun x => [.val (.one (.c (.sl (E.GAdmit.L x.1)))), .val (.agg ((GPending.cs x.2.1).map R.c)), .val (.agg ((GAdmit.cs x.2.2).map R.c))]
  caps := fun x => []
  res := Try.x72.res
  outs := Try.x72.outs
  R := fun x y => Runs (Try.a72 x.1 x.2.1 x.2.2) (KOf (fun j => Ev (Try.c72) j y) y)
  ok := fun x y h => sys_ok (cx := Try.x72) (body := Try.b72) Try.follow Try.func72 (by kernel_rfl) (by kernel_rfl) (by kernel_rfl) (by kernel_rfl) _ (Nat.le_of_ble_eq_true rfl) (by kernel_rfl) _ (Try.h72 x.1 x.2.1 x.2.2) (Try.g72) y h
  flat := false
  hflat := fun h => nomatch h
abbrev Try.Clo137 : Type := Clo Try.prog GEvent Bool [.agg (List.replicate 24 none)] (fun x => [.val (.agg ((GEvent.cs x).map R.c))]) (fun y => [.one (.c (.bool y))])
noncomputable def Try.clo137 (c : Try.Clo137) := Clo.mir c true (fun _ _ => flatE rfl)
/-! ### 151 slices.IndexFunc[[]workflow/api.Event,workflow/api.Event] -/
inductive Try.J151 where
  | s0 (s_t0 : List GEvent) (f_t1 : Try.Clo137) (t7 : Int) (t8 : Int)
noncomputable def Try.b151 : Code := Try.f151.body.getD .skip
noncomputable def Try.x151 : Cx Try.J151 Int where
  nt := 19
  rvs := [.tmp 4]
  mh := []
  res := fun y => [.one (.c (.int .i64 y))]
  outs := fun y => []
  path := fun
    | .s0 _ _ _ _ => [0, 1, 0, 1]
  sig := fun
    | .s0 _ _ _ _ => [0, 1, 7, 8]
  snap := fun
    | .s0 s_t0 f_t1 t7 t8 => ⟨[(0, .one (.c (.sl (E.GEvent.L s_t0)))), (1, .one (.c (.fn f_t1.f f_t1.caps))), (7, .one (.c (.int .i64 t7))), (8, .one (.c (.int .i64 t8)))], []⟩
noncomputable def Try.a151 (s_0 : List GEvent) (f_1 : Try.Clo137) : Cert Try.prog Try.J151 Int :=
    .len E.GEvent s_0 <|
    .jump (.s0 s_0 f_1 (s_0.length : Int) 0) []
noncomputable def Try.c151 : Try.J151 → Cert Try.prog Try.J151 Int
  | .s0 s_t0 f_t1 t7 t8 =>
    .ite 9 (decide (t8 < t7))
    (.elem E.GEvent s_t0 t8 fun a1 =>
    .call (Try.clo137 f_t1) a1 fun r2 =>
    .ite 16 r2
    (.ret t8)
    (.jump (.s0 s_t0 f_t1 t7 (IntKind.i64.wrap (t8 + 1))) []))
    (.ret (-1))
theorem Try.h151 (s_0 : List GEvent) (f_1 : Try.Clo137) : execC Try.prog Try.x151 Try.b151 [] (topC Try.prog Try.x151) (Try.a151 s_0 f_1) (ES.init [.val (.one (.c (.sl (E.GEvent.L s_0)))), .val (.one (.c (.fn f_1.f f_1.caps)))]) :=
  of_triv (rs := Try.x151.rs) (snap := Try.x151.snap) (c := Try.a151 s_0 f_1) (by kernel_rfl)
theorem Try.g151 : ∀ j, chkAt Try.prog Try.x151 Try.b151 (Try.x151.path j) (Try.c151 j) (Try.x151.snap j).es
  | .s0 s_t0 f_t1 t7 t8 => of_triv (rs := Try.x151.rs) (snap := Try.x151.snap) (c := Try.c151 (.s0 s_t0 f_t1 t7 t8)) (by kernel_rfl)
noncomputable def Try.m151 : Mir Try.prog 151 ((List GEvent) × Try.Clo137) Int where
  fs := [.one none, .one none]
  ga := fun x => [.val (.one (.c (.sl (E.GEvent.L x.1)))), .val (.one (.c (.fn x.2.f x.2.caps)))]
  caps := fun x => []
  res := Try.x151.res
  outs := Try.x151.outs
  R := fun x y => Runs (Try.a151 x.1 x.2) (KOf (fun j => Ev (Try.c151) j y) y)
  ok := fun x y h => sys_ok (cx := Try.x151) (body := Try.b151) Try.follow Try.func151 (by kernel_rfl) (by kernel_rfl) (by kernel_rfl) (by kernel_rfl) _ (Nat.le_of_ble_eq_true rfl) (by kernel_rfl) _ (Try.h151 x.1 x.2) (Try.g151) y h
  flat := true
  hflat := fun _ _ => flatE rfl
/-! ### 152 workflow/update.Outcome$1$1 -/
noncomputable def Try.b152 : Code := Try.f152.body.getD .skip
noncomputable def Try.x152 : Cx Empty Bool where
  nt := 15
  rvs := [.tmp 4]
  mh := []
  res := fun y => [.one (.c (.bool y))]
  outs := fun y => []
  path := fun j => nomatch j
  sig := fun j => nomatch j
  snap := fun j => nomatch j
noncomputable def Try.a152 (e_0 : GEvent) (cap0 : Int) (cap1 : ByteArray) : Cert Try.prog Empty Bool :=
    .ite 9 (e_0.Kind == cap0)
    (.ret (strEq e_0.Key cap1))
    (.ret false)
noncomputable def Try.c152 : Empty → Cert Try.prog Empty Bool := fun j => nomatch j
theorem Try.h152 (e_0 : GEvent) (cap0 : Int) (cap1 : ByteArray) : execC Try.prog Try.x152 Try.b152 [] (topC Try.prog Try.x152) (Try.a152 e_0 cap0 cap1) (ES.init [.val (.agg ((GEvent.cs e_0).map R.c)), .val (.one (.c (.ptr [(.int .i64 cap0)]))), .val (.one (.c (.ptr [(.str cap1)])))]) :=
  of_triv (rs := Try.x152.rs) (snap := Try.x152.snap) (c := Try.a152 e_0 cap0 cap1) (by kernel_rfl)
theorem Try.g152 : ∀ j, chkAt Try.prog Try.x152 Try.b152 (Try.x152.path j) (Try.c152 j) (Try.x152.snap j).es := fun j => nomatch j
noncomputable def Try.m152 : Mir Try.prog 152 (GEvent × Int × ByteArray) Bool where
  fs := [.agg (List.replicate 24 none)]
  ga := fun x => [.val (.agg ((GEvent.cs x.1).map R.c))]
  caps := fun x => [(.ptr [(.int .i64 x.2.1)]), (.ptr [(.str x.2.2)])]
  res := Try.x152.res
  outs := Try.x152.outs
  R := fun x y => Runs (Try.a152 x.1 x.2.1 x.2.2) (KOf (fun j => Ev (Try.c152) j y) y)
  ok := fun x y h => sys_ok (cx := Try.x152) (body := Try.b152) Try.follow Try.func152 (by kernel_rfl) (by kernel_rfl) (by kernel_rfl) (by kernel_rfl) _ (Nat.le_of_ble_eq_true rfl) (by kernel_rfl) _ (Try.h152 x.1 x.2.1 x.2.2) (Try.g152) y h
  flat := true
  hflat := fun _ _ => flatE rfl
/-! ### 150 workflow/update.Outcome$1 -/
noncomputable def Try.b150 : Code := Try.f150.body.getD .skip
noncomputable def Try.x150 : Cx Empty Int where
  nt := 9
  rvs := [.tmp 4]
  mh := []
  res := fun y => [.one (.c (.int .i64 y))]
  outs := fun y => []
  path := fun j => nomatch j
  sig := fun j => nomatch j
  snap := fun j => nomatch j
noncomputable def Try.a150 (kind_0 : Int) (cap0 : GRun) (cap1 : ByteArray) : Cert Try.prog Empty Int :=
    .call Try.m151 (cap0.History, (⟨152, [(.ptr [(.int .i64 kind_0)]), (.ptr [(.str cap1)])], fun a b => Try.m152.R (a, kind_0, cap1) b, fun a b h => Try.m152.ok (a, kind_0, cap1) b h⟩ : Try.Clo137)) fun r1 =>
    .ret r1
noncomputable def Try.c150 : Empty → Cert Try.prog Empty Int := fun j => nomatch j
theorem Try.h150 (kind_0 : Int) (cap0 : GRun) (cap1 : ByteArray) : execC Try.prog Try.x150 Try.b150 [] (topC Try.prog Try.x150) (Try.a150 kind_0 cap0 cap1) (ES.init [.val (.one (.c (.int .i64 kind_0))), .val (.one (.c (.ptr (GRun.cs cap0)))), .val (.one (.c (.ptr [(.str cap1)])))]) :=
  of_triv (rs := Try.x150.rs) (snap := Try.x150.snap) (c := Try.a150 kind_0 cap0 cap1) (by kernel_rfl)
theorem Try.g150 : ∀ j, chkAt Try.prog Try.x150 Try.b150 (Try.x150.path j) (Try.c150 j) (Try.x150.snap j).es := fun j => nomatch j
noncomputable def Try.m150 : Mir Try.prog 150 (Int × GRun × ByteArray) Int where
  fs := [.one none]
  ga := fun x => [.val (.one (.c (.int .i64 x.1)))]
  caps := fun x => [(.ptr (GRun.cs x.2.1)), (.ptr [(.str x.2.2)])]
  res := Try.x150.res
  outs := Try.x150.outs
  R := fun x y => Runs (Try.a150 x.1 x.2.1 x.2.2) (KOf (fun j => Ev (Try.c150) j y) y)
  ok := fun x y h => sys_ok (cx := Try.x150) (body := Try.b150) Try.follow Try.func150 (by kernel_rfl) (by kernel_rfl) (by kernel_rfl) (by kernel_rfl) _ (Nat.le_of_ble_eq_true rfl) (by kernel_rfl) _ (Try.h150 x.1 x.2.1 x.2.2) (Try.g150) y h
  flat := true
  hflat := fun _ _ => flatE rfl
/-! ### 75 workflow/update.Outcome -/
noncomputable def Try.b75 : Code := Try.f75.body.getD .skip
noncomputable def Try.x75 : Cx Empty (Int × GVal) where
  nt := 40
  rvs := [.tmp 4, .cell 5 25]
  mh := []
  res := fun y => [.one (.c (.int .i64 y.1)), .agg ((((GVal.cs y.2).map R.c).set 3 (.own 25 5 (E.GVal.L y.2.Items))).set 4 (.own 9 1 (E.str.L y.2.Keys)))]
  outs := fun y => []
  path := fun j => nomatch j
  sig := fun j => nomatch j
  snap := fun j => nomatch j
noncomputable def Try.a75 (r_0 : GRun) (key_1 : ByteArray) : Cert Try.prog Empty (Int × GVal) :=
    .call Try.m150 (28, r_0, key_1) fun r1 =>
    .ite 13 (decide (0 ≤ r1))
    (.elem E.GEvent r_0.History r1 fun a2 =>
    .call Try.m153 a2.Data fun r3 =>
    .elem E.GEvent r_0.History r1 fun a4 =>
    .ite 27 (a4.N == 0)
    (.ret (3, r3))
    (.ret (4, r3)))
    (.call Try.m150 (27, r_0, key_1) fun r5 =>
    .ite 32 (decide (0 ≤ r5))
    (.ret (2, (GVal.mk 0 0 (⟨#[]⟩ : ByteArray) [] [])))
    (.call Try.m141 (r_0.Admits, key_1) fun r6 =>
    .ite 37 r6
    (.ret (1, (GVal.mk 0 0 (⟨#[]⟩ : ByteArray) [] [])))
    (.ret (0, (GVal.mk 0 0 (⟨#[]⟩ : ByteArray) [] [])))))
noncomputable def Try.c75 : Empty → Cert Try.prog Empty (Int × GVal) := fun j => nomatch j
theorem Try.h75 (r_0 : GRun) (key_1 : ByteArray) : execC Try.prog Try.x75 Try.b75 [] (topC Try.prog Try.x75) (Try.a75 r_0 key_1) (ES.init [.val (.agg ((GRun.cs r_0).map R.c)), .val (.one (.c (.str key_1)))]) :=
  of_triv (rs := Try.x75.rs) (snap := Try.x75.snap) (c := Try.a75 r_0 key_1) (by kernel_rfl)
theorem Try.g75 : ∀ j, chkAt Try.prog Try.x75 Try.b75 (Try.x75.path j) (Try.c75 j) (Try.x75.snap j).es := fun j => nomatch j
noncomputable def Try.m75 : Mir Try.prog 75 (GRun × ByteArray) (Int × GVal) where
  fs := [.agg (List.replicate 34 none), .one none]
  ga := fun x => [.val (.agg ((GRun.cs x.1).map R.c)), .val (.one (.c (.str x.2)))]
  caps := fun x => []
  res := Try.x75.res
  outs := Try.x75.outs
  R := fun x y => Runs (Try.a75 x.1 x.2) (KOf (fun j => Ev (Try.c75) j y) y)
  ok := fun x y h => sys_ok (cx := Try.x75) (body := Try.b75) Try.follow Try.func75 (by kernel_rfl) (by kernel_rfl) (by kernel_rfl) (by kernel_rfl) _ (Nat.le_of_ble_eq_true rfl) (by kernel_rfl) _ (Try.h75 x.1 x.2) (Try.g75) y h
  flat := false
  hflat := fun h => nomatch h
/-! ### 76 workflow/workflowref33.Outcome -/
inductive Try.J76 where
  | s0 (key_t1 : ByteArray) (r_t2 : GRun) (t5 : GVal) (accepted_t6 : Bool) (i_t7 : Int)
noncomputable def Try.b76 : Code := Try.f76.body.getD .skip
noncomputable def Try.x76 : Cx Try.J76 (Int × GVal) where
  nt := 49
  rvs := [.tmp 4, .cell 5 25]
  mh := []
  res := fun y => [.one (.c (.int .i64 y.1)), .agg ((GVal.cs y.2).map R.c)]
  outs := fun y => []
  path := fun
    | .s0 _ _ _ _ _ => [0, 1, 0, 1, 1]
  sig := fun
    | .s0 _ _ _ _ _ => [1, 2, 5, 6, 7]
  snap := fun
    | .s0 key_t1 r_t2 t5 accepted_t6 i_t7 => ⟨[(1, .one (.c (.str key_t1))), (2, .one (.ptr 0 1 0)), (5, .one (.ptr 1 1 0)), (6, .one (.c (.bool accepted_t6))), (7, .one (.c (.int .i64 i_t7)))], [((0, 1), .box ((GRun.cs r_t2).map A.c)), ((1, 1), .box ((((GVal.cs t5).map A.c).set 3 .nil).set 4 .nil))]⟩
noncomputable def Try.a76 (r_0 : GRun) (key_1 : ByteArray) : Cert Try.prog Try.J76 (Int × GVal) :=
    .jump (.s0 key_1 r_0 (GVal.mk 0 0 (⟨#[]⟩ : ByteArray) [] []) false 0) [(2000, 1), (5000, 1)]
noncomputable def Try.c76 : Try.J76 → Cert Try.prog Try.J76 (Int × GVal)
  | .s0 key_t1 r_t2 t5 accepted_t6 i_t7 =>
    .len E.GEvent r_t2.History <|
    .ite 13 (decide (i_t7 < (r_t2.History.length : Int)))
    (.elem E.GEvent r_t2.History i_t7 fun a1 =>
    .ite 24 (!strEq a1.Key key_t1)
    (.jump (.s0 key_t1 r_t2 (GVal.mk t5.Kind t5.Num t5.Text [] []) accepted_t6 (IntKind.i64.wrap (i_t7 + 1))) [(0, 1), (1, 1)])
    (.ite 27 (a1.Kind == 28)
    (.ite 30 (a1.N != 0)
    (.ret (4, a1.Data))
    (.ret (3, a1.Data)))
    (.ite 36 accepted_t6
    (.jump (.s0 key_t1 r_t2 (GVal.mk t5.Kind t5.Num t5.Text [] []) true (IntKind.i64.wrap (i_t7 + 1))) [(0, 1), (1, 1)])
    (.jump (.s0 key_t1 r_t2 (GVal.mk t5.Kind t5.Num t5.Text [] []) (a1.Kind == 27) (IntKind.i64.wrap (i_t7 + 1))) [(0, 1), (1, 1)]))))
    (.ite 41 accepted_t6
    (.ret (2, (GVal.mk 0 0 (⟨#[]⟩ : ByteArray) [] [])))
    (.call Try.m149 (r_t2.Admits, key_t1) fun r2 =>
    .ite 46 r2
    (.ret (1, (GVal.mk 0 0 (⟨#[]⟩ : ByteArray) [] [])))
    (.ret (0, (GVal.mk 0 0 (⟨#[]⟩ : ByteArray) [] [])))))
theorem Try.h76 (r_0 : GRun) (key_1 : ByteArray) : execC Try.prog Try.x76 Try.b76 [] (topC Try.prog Try.x76) (Try.a76 r_0 key_1) (ES.init [.val (.agg ((GRun.cs r_0).map R.c)), .val (.one (.c (.str key_1)))]) :=
  of_triv (rs := Try.x76.rs) (snap := Try.x76.snap) (c := Try.a76 r_0 key_1) (by kernel_rfl)
theorem Try.g76 : ∀ j, chkAt Try.prog Try.x76 Try.b76 (Try.x76.path j) (Try.c76 j) (Try.x76.snap j).es
  | .s0 key_t1 r_t2 t5 accepted_t6 i_t7 => of_triv (rs := Try.x76.rs) (snap := Try.x76.snap) (c := Try.c76 (.s0 key_t1 r_t2 t5 accepted_t6 i_t7)) (by kernel_rfl)
noncomputable def Try.m76 : Mir Try.prog 76 (GRun × ByteArray) (Int × GVal) where
  fs := [.agg (List.replicate 34 none), .one none]
  ga := fun x => [.val (.agg ((GRun.cs x.1).map R.c)), .val (.one (.c (.str x.2)))]
  caps := fun x => []
  res := Try.x76.res
  outs := Try.x76.outs
  R := fun x y => Runs (Try.a76 x.1 x.2) (KOf (fun j => Ev (Try.c76) j y) y)
  ok := fun x y h => sys_ok (cx := Try.x76) (body := Try.b76) Try.follow Try.func76 (by kernel_rfl) (by kernel_rfl) (by kernel_rfl) (by kernel_rfl) _ (Nat.le_of_ble_eq_true rfl) (by kernel_rfl) _ (Try.h76 x.1 x.2) (Try.g76) y h
  flat := false
  hflat := fun h => nomatch h
/-! ### 154 workflow/update.Settle$1 -/
noncomputable def Try.b154 : Code := Try.f154.body.getD .skip
noncomputable def Try.x154 : Cx Empty Bool where
  nt := 9
  rvs := [.tmp 3]
  mh := []
  res := fun y => [.one (.c (.bool y))]
  outs := fun y => []
  path := fun j => nomatch j
  sig := fun j => nomatch j
  snap := fun j => nomatch j
noncomputable def Try.a154 (a_0 : GAdmit) (cap0 : List ByteArray × List Bool) : Cert Try.prog Empty Bool :=
    .mget E.bool cap0.1 cap0.2 false a_0.Key <|
    .ret (!(mgetT cap0.1 cap0.2 false a_0.Key))
noncomputable def Try.c154 : Empty → Cert Try.prog Empty Bool := fun j => nomatch j
theorem Try.h154 (a_0 : GAdmit) (cap0 : List ByteArray × List Bool) : execC Try.prog Try.x154 Try.b154 [] (topC Try.prog Try.x154) (Try.a154 a_0 cap0) (ES.init [.val (.agg ((GAdmit.cs a_0).map R.c)), .val (.one (.c (.ptr [(.map false cap0.1 (E.bool.L cap0.2))])))]) :=
  of_triv (rs := Try.x154.rs) (snap := Try.x154.snap) (c := Try.a154 a_0 cap0) (by kernel_rfl)
theorem Try.g154 : ∀ j, chkAt Try.prog Try.x154 Try.b154 (Try.x154.path j) (Try.c154 j) (Try.x154.snap j).es := fun j => nomatch j
noncomputable def Try.m154 : Mir Try.prog 154 (GAdmit × (List ByteArray × List Bool)) Bool where
  fs := [.agg (List.replicate 7 none)]
  ga := fun x => [.val (.agg ((GAdmit.cs x.1).map R.c))]
  caps := fun x => [(.ptr [(.map false x.2.1 (E.bool.L x.2.2))])]
  res := Try.x154.res
  outs := Try.x154.outs
  R := fun x y => Runs (Try.a154 x.1 x.2) (KOf (fun j => Ev (Try.c154) j y) y)
  ok := fun x y h => sys_ok (cx := Try.x154) (body := Try.b154) Try.follow Try.func154 (by kernel_rfl) (by kernel_rfl) (by kernel_rfl) (by kernel_rfl) _ (Nat.le_of_ble_eq_true rfl) (by kernel_rfl) _ (Try.h154 x.1 x.2) (Try.g154) y h
  flat := true
  hflat := fun _ _ => flatE rfl
/-! ### 77 workflow/update.Settle -/
inductive Try.J77 where
  | s0 (l_t0 : List GAdmit) (rejected_t2 : List ByteArray) (gone_t7k : List ByteArray) (gone_t7v : List Bool) (t13 : List GCommand) (t14 : Int) (t15 : Int)
  | s1 (l_t0 : List GAdmit) (gone_t7k : List ByteArray) (gone_t7v : List Bool) (t26 : List ByteArray) (t27 : Int) (t28 : Int)
noncomputable def Try.b77 : Code := Try.f77.body.getD .skip
noncomputable def Try.x77 : Cx Try.J77 (List GAdmit) where
  nt := 38
  rvs := [.tmp 6]
  mh := []
  res := fun y => [.one (.own 81 7 (E.GAdmit.L y))]
  outs := fun y => []
  path := fun
    | .s0 _ _ _ _ _ _ _ => [0, 1, 0, 1, 1]
    | .s1 _ _ _ _ _ _ => [0, 1, 0, 1, 1, 1]
  sig := fun
    | .s0 _ _ _ _ _ _ _ => [0, 2, 7, 13, 14, 15]
    | .s1 _ _ _ _ _ _ => [0, 7, 26, 27, 28]
  snap := fun
    | .s0 l_t0 rejected_t2 gone_t7k gone_t7v t13 t14 t15 => ⟨[(0, .one (.c (.sl (E.GAdmit.L l_t0)))), (2, .one (.c (.sl (E.str.L rejected_t2)))), (7, .one (.ptr 0 1 0)), (13, .one (.c (.sl (E.GCommand.L t13)))), (14, .one (.c (.int .i64 t14))), (15, .one (.c (.int .i64 t15)))], [((0, 1), .box [(.own 1 1)]), ((1, 1), .map false gone_t7k (E.bool.L gone_t7v))]⟩
    | .s1 l_t0 gone_t7k gone_t7v t26 t27 t28 => ⟨[(0, .one (.c (.sl (E.GAdmit.L l_t0)))), (7, .one (.ptr 0 1 0)), (26, .one (.c (.sl (E.str.L t26)))), (27, .one (.c (.int .i64 t27))), (28, .one (.c (.int .i64 t28)))], [((0, 1), .box [(.own 1 1)]), ((1, 1), .map false gone_t7k (E.bool.L gone_t7v))]⟩
noncomputable def Try.a77 (l_0 : List GAdmit) (cmds_1 : List GCommand) (rejected_2 : List ByteArray) : Cert Try.prog Try.J77 (List GAdmit) :=
    .len E.GCommand cmds_1 <|
    .jump (.s0 l_0 rejected_2 [] [] cmds_1 (cmds_1.length : Int) 0) [(7000, 1), (12000, 1)]
noncomputable def Try.c77 : Try.J77 → Cert Try.prog Try.J77 (List GAdmit)
  | .s0 l_t0 rejected_t2 gone_t7k gone_t7v t13 t14 t15 =>
    .ite 16 (decide (t15 < t14))
    (.elem E.GCommand t13 t15 fun a1 =>
    .ite 21 (a1.Kind == 8)
    (.mput E.bool gone_t7k gone_t7v a1.Key true <|
    .jump (.s0 l_t0 rejected_t2 (mputK gone_t7k a1.Key) (mputT gone_t7k gone_t7v a1.Key true) t13 t14 (IntKind.i64.wrap (t15 + 1))) [(0, 1), (1, 1)])
    (.jump (.s0 l_t0 rejected_t2 gone_t7k gone_t7v t13 t14 (IntKind.i64.wrap (t15 + 1))) [(0, 1), (1, 1)]))
    (.len E.str rejected_t2 <|
    .jump (.s1 l_t0 gone_t7k gone_t7v rejected_t2 (rejected_t2.length : Int) 0) [(0, 1), (1, 1)])
  | .s1 l_t0 gone_t7k gone_t7v t26 t27 t28 =>
    .ite 29 (decide (t28 < t27))
    (.elem E.str t26 t28 fun a2 =>
    .mput E.bool gone_t7k gone_t7v a2 true <|
    .jump (.s1 l_t0 (mputK gone_t7k a2) (mputT gone_t7k gone_t7v a2 true) t26 t27 (IntKind.i64.wrap (t28 + 1))) [(0, 1), (1, 1)])
    (.call Try.m144 (l_t0, (⟨154, [(.ptr [(.map false gone_t7k (E.bool.L gone_t7v))])], fun a b => Try.m154.R (a, (gone_t7k, gone_t7v)) b, fun a b h => Try.m154.ok (a, (gone_t7k, gone_t7v)) b h⟩ : Try.Clo182)) fun r3 =>
    .ret r3)
theorem Try.h77 (l_0 : List GAdmit) (cmds_1 : List GCommand) (rejected_2 : List ByteArray) : execC Try.prog Try.x77 Try.b77 [] (topC Try.prog Try.x77) (Try.a77 l_0 cmds_1 rejected_2) (ES.init [.val (.one (.c (.sl (E.GAdmit.L l_0)))), .val (.one (.c (.sl (E.GCommand.L cmds_1)))), .val (.one (.c (.sl (E.str.L rejected_2))))]) :=
  of_triv (rs := Try.x77.rs) (snap := Try.x77.snap) (c := Try.a77 l_0 cmds_1 rejected_2) (by kernel_rfl)
theorem Try.g77 : ∀ j, chkAt Try.prog Try.x77 Try.b77 (Try.x77.path j) (Try.c77 j) (Try.x77.snap j).es
  | .s0 l_t0 rejected_t2 gone_t7k gone_t7v t13 t14 t15 => of_triv (rs := Try.x77.rs) (snap := Try.x77.snap) (c := Try.c77 (.s0 l_t0 rejected_t2 gone_t7k gone_t7v t13 t14 t15)) (by kernel_rfl)
  | .s1 l_t0 gone_t7k gone_t7v t26 t27 t28 => of_triv (rs := Try.x77.rs) (snap := Try.x77.snap) (c := Try.c77 (.s1 l_t0 gone_t7k gone_t7v t26 t27 t28)) (by kernel_rfl)
noncomputable def Try.m77 : Mir Try.prog 77 ((List GAdmit) × (List GCommand) × (List ByteArray)) (List GAdmit) where
  fs := [.one none, .one none, .one none]
  ga := fun x => [.val (.one (.c (.sl (E.GAdmit.L x.1)))), .val (.one (.c (.sl (E.GCommand.L x.2.1)))), .val (.one (.c (.sl (E.str.L x.2.2))))]
  caps := fun x => []
  res := Try.x77.res
  outs := Try.x77.outs
  R := fun x y => Runs (Try.a77 x.1 x.2.1 x.2.2) (KOf (fun j => Ev (Try.c77) j y) y)
  ok := fun x y h => sys_ok (cx := Try.x77) (body := Try.b77) Try.follow Try.func77 (by kernel_rfl) (by kernel_rfl) (by kernel_rfl) (by kernel_rfl) _ (Nat.le_of_ble_eq_true rfl) (by kernel_rfl) _ (Try.h77 x.1 x.2.1 x.2.2) (Try.g77) y h
  flat := false
  hflat := fun h => nomatch h
/-! ### 78 workflow/workflowref33.Settle -/
inductive Try.J78 where
  | s0 (l_t0 : List GAdmit) (cmds_t1 : List GCommand) (rejected_t2 : List ByteArray) (out_t7 : List GAdmit) (i_t8 : Int)
  | s1 (l_t0 : List GAdmit) (cmds_t1 : List GCommand) (rejected_t2 : List ByteArray) (out_t7 : List GAdmit) (i_t8 : Int) (keep_t9 : Bool) (k_t10 : Int)
  | s2 (l_t0 : List GAdmit) (cmds_t1 : List GCommand) (rejected_t2 : List ByteArray) (out_t7 : List GAdmit) (i_t8 : Int) (keep_t9 : Bool) (k_t11 : Int)
noncomputable def Try.b78 : Code := Try.f78.body.getD .skip
noncomputable def Try.x78 : Cx Try.J78 (List GAdmit) where
  nt := 75
  rvs := [.tmp 6]
  mh := []
  res := fun y => [.one (.own 81 7 (E.GAdmit.L y))]
  outs := fun y => []
  path := fun
    | .s0 _ _ _ _ _ => [0, 1, 0, 1, 1]
    | .s1 _ _ _ _ _ _ _ => [0, 1, 0, 1, 0, 0, 1, 0, 0, 1, 0, 1, 1]
    | .s2 _ _ _ _ _ _ _ => [0, 1, 0, 1, 1, 0, 0, 1, 0, 0, 1, 0, 1, 1]
  sig := fun
    | .s0 _ _ _ _ _ => [0, 1, 2, 7, 8]
    | .s1 _ _ _ _ _ _ _ => [0, 1, 2, 7, 8, 9, 10]
    | .s2 _ _ _ _ _ _ _ => [0, 1, 2, 7, 8, 9, 11]
  snap := fun
    | .s0 l_t0 cmds_t1 rejected_t2 out_t7 i_t8 => ⟨[(0, .one (.c (.sl (E.GAdmit.L l_t0)))), (1, .one (.c (.sl (E.GCommand.L cmds_t1)))), (2, .one (.c (.sl (E.str.L rejected_t2)))), (7, .one (.own 0 1)), (8, .one (.c (.int .i64 i_t8)))], [((0, 1), .arr 81 7 (E.GAdmit.L out_t7))]⟩
    | .s1 l_t0 cmds_t1 rejected_t2 out_t7 i_t8 keep_t9 k_t10 => ⟨[(0, .one (.c (.sl (E.GAdmit.L l_t0)))), (1, .one (.c (.sl (E.GCommand.L cmds_t1)))), (2, .one (.c (.sl (E.str.L rejected_t2)))), (7, .one (.own 0 1)), (8, .one (.c (.int .i64 i_t8))), (9, .one (.c (.bool keep_t9))), (10, .one (.c (.int .i64 k_t10)))], [((0, 1), .arr 81 7 (E.GAdmit.L out_t7))]⟩
    | .s2 l_t0 cmds_t1 rejected_t2 out_t7 i_t8 keep_t9 k_t11 => ⟨[(0, .one (.c (.sl (E.GAdmit.L l_t0)))), (1, .one (.c (.sl (E.GCommand.L cmds_t1)))), (2, .one (.c (.sl (E.str.L rejected_t2)))), (7, .one (.own 0 1)), (8, .one (.c (.int .i64 i_t8))), (9, .one (.c (.bool keep_t9))), (11, .one (.c (.int .i64 k_t11)))], [((0, 1), .arr 81 7 (E.GAdmit.L out_t7))]⟩
noncomputable def Try.a78 (l_0 : List GAdmit) (cmds_1 : List GCommand) (rejected_2 : List ByteArray) : Cert Try.prog Try.J78 (List GAdmit) :=
    .adoptT 7 81 7 <|
    .jump (.s0 l_0 cmds_1 rejected_2 [] 0) [(7999, 1)]
noncomputable def Try.c78 : Try.J78 → Cert Try.prog Try.J78 (List GAdmit)
  | .s0 l_t0 cmds_t1 rejected_t2 out_t7 i_t8 =>
    .len E.GAdmit l_t0 <|
    .ite 15 (decide (i_t8 < (l_t0.length : Int)))
    (.jump (.s1 l_t0 cmds_t1 rejected_t2 out_t7 i_t8 true 0) [(0, 1)])
    (.ret out_t7)
  | .s1 l_t0 cmds_t1 rejected_t2 out_t7 i_t8 keep_t9 k_t10 =>
    .len E.GCommand cmds_t1 <|
    .ite 21 (decide (k_t10 < (cmds_t1.length : Int)))
    (.ite 25 keep_t9
    (.elem E.GCommand cmds_t1 k_t10 fun a1 =>
    .ite 32 (a1.Kind == 8)
    (.elem E.GCommand cmds_t1 k_t10 fun a2 =>
    .elem E.GAdmit l_t0 i_t8 fun a3 =>
    .jump (.s1 l_t0 cmds_t1 rejected_t2 out_t7 i_t8 (!(strEq a2.Key a3.Key)) (IntKind.i64.wrap (k_t10 + 1))) [(0, 1)])
    (.jump (.s1 l_t0 cmds_t1 rejected_t2 out_t7 i_t8 true (IntKind.i64.wrap (k_t10 + 1))) [(0, 1)]))
    (.jump (.s1 l_t0 cmds_t1 rejected_t2 out_t7 i_t8 false (IntKind.i64.wrap (k_t10 + 1))) [(0, 1)]))
    (.jump (.s2 l_t0 cmds_t1 rejected_t2 out_t7 i_t8 keep_t9 0) [(0, 1)])
  | .s2 l_t0 cmds_t1 rejected_t2 out_t7 i_t8 keep_t9 k_t11 =>
    .len E.str rejected_t2 <|
    .ite 50 (decide (k_t11 < (rejected_t2.length : Int)))
    (.ite 54 keep_t9
    (.elem E.str rejected_t2 k_t11 fun a4 =>
    .elem E.GAdmit l_t0 i_t8 fun a5 =>
    .jump (.s2 l_t0 cmds_t1 rejected_t2 out_t7 i_t8 (!strEq a4 a5.Key) (IntKind.i64.wrap (k_t11 + 1))) [(0, 1)])
    (.jump (.s2 l_t0 cmds_t1 rejected_t2 out_t7 i_t8 false (IntKind.i64.wrap (k_t11 + 1))) [(0, 1)]))
    (.ite 66 keep_t9
    (.elem E.GAdmit l_t0 i_t8 fun a6 =>
    .bld E.GAdmit [a6] <|
    .app E.GAdmit 112 out_t7 [a6] <|
    .jump (.s0 l_t0 cmds_t1 rejected_t2 (out_t7 ++ [a6]) (IntKind.i64.wrap (i_t8 + 1))) [(73000, 2)])
    (.jump (.s0 l_t0 cmds_t1 rejected_t2 out_t7 (IntKind.i64.wrap (i_t8 + 1))) [(0, 1)]))
theorem Try.h78 (l_0 : List GAdmit) (cmds_1 : List GCommand) (rejected_2 : List ByteArray) : execC Try.prog Try.x78 Try.b78 [] (topC Try.prog Try.x78) (Try.a78 l_0 cmds_1 rejected_2) (ES.init [.val (.one (.c (.sl (E.GAdmit.L l_0)))), .val (.one (.c (.sl (E.GCommand.L cmds_1)))), .val (.one (.c (.sl (E.str.L rejected_2))))]) :=
  of_triv (rs := Try.x78.rs) (snap := Try.x78.snap) (c := Try.a78 l_0 cmds_1 rejected_2) (by kernel_rfl)
theorem Try.g78 : ∀ j, chkAt Try.prog Try.x78 Try.b78 (Try.x78.path j) (Try.c78 j) (Try.x78.snap j).es
  | .s0 l_t0 cmds_t1 rejected_t2 out_t7 i_t8 => of_triv (rs := Try.x78.rs) (snap := Try.x78.snap) (c := Try.c78 (.s0 l_t0 cmds_t1 rejected_t2 out_t7 i_t8)) (by kernel_rfl)
  | .s1 l_t0 cmds_t1 rejected_t2 out_t7 i_t8 keep_t9 k_t10 => of_triv (rs := Try.x78.rs) (snap := Try.x78.snap) (c := Try.c78 (.s1 l_t0 cmds_t1 rejected_t2 out_t7 i_t8 keep_t9 k_t10)) (by kernel_rfl)
  | .s2 l_t0 cmds_t1 rejected_t2 out_t7 i_t8 keep_t9 k_t11 => of_triv (rs := Try.x78.rs) (snap := Try.x78.snap) (c := Try.c78 (.s2 l_t0 cmds_t1 rejected_t2 out_t7 i_t8 keep_t9 k_t11)) (by kernel_rfl)
noncomputable def Try.m78 : Mir Try.prog 78 ((List GAdmit) × (List GCommand) × (List ByteArray)) (List GAdmit) where
  fs := [.one none, .one none, .one none]
  ga := fun x => [.val (.one (.c (.sl (E.GAdmit.L x.1)))), .val (.one (.c (.sl (E.GCommand.L x.2.1)))), .val (.one (.c (.sl (E.str.L x.2.2))))]
  caps := fun x => []
  res := Try.x78.res
  outs := Try.x78.outs
  R := fun x y => Runs (Try.a78 x.1 x.2.1 x.2.2) (KOf (fun j => Ev (Try.c78) j y) y)
  ok := fun x y h => sys_ok (cx := Try.x78) (body := Try.b78) Try.follow Try.func78 (by kernel_rfl) (by kernel_rfl) (by kernel_rfl) (by kernel_rfl) _ (Nat.le_of_ble_eq_true rfl) (by kernel_rfl) _ (Try.h78 x.1 x.2.1 x.2.2) (Try.g78) y h
  flat := false
  hflat := fun h => nomatch h
/-! ### 74 workflow/workflowlaw33.knows -/
noncomputable def Try.b74 : Code := Try.f74.body.getD .skip
noncomputable def Try.x74 : Cx Empty Bool where
  nt := 51
  rvs := [.tmp 0]
  mh := []
  res := fun y => [.one (.c (.bool y))]
  outs := fun y => []
  path := fun j => nomatch j
  sig := fun j => nomatch j
  snap := fun j => nomatch j
noncomputable def Try.a74 : Cert Try.prog Empty Bool :=
    .call Try.m71 ([], (GPending.mk 0 0 0 0 0 0 (⟨#[]⟩ : ByteArray) (GVal.mk 0 0 (⟨#[]⟩ : ByteArray) [] []) (GVal.mk 0 0 (⟨#[]⟩ : ByteArray) [] []) false [] [] [] [] [] []), (GAdmit.mk (⟨#[117, 49]⟩ : ByteArray) (⟨#[117, 112]⟩ : ByteArray) (GVal.mk 0 0 (⟨#[]⟩ : ByteArray) [] []))) fun r1 =>
    .ite 17 (r1.2.2 != 0)
    (.ret false)
    (.ite 20 r1.2.1
    (.ret false)
    (.len E.GAdmit r1.1 <|
    .ite 24 ((r1.1.length : Int) != 1)
    (.ret false)
    (.call Try.m75 ((GRun.mk (⟨#[]⟩ : ByteArray) (⟨#[]⟩ : ByteArray) (⟨#[]⟩ : ByteArray) 0 [] (GPending.mk 0 0 0 0 0 0 (⟨#[]⟩ : ByteArray) (GVal.mk 0 0 (⟨#[]⟩ : ByteArray) [] []) (GVal.mk 0 0 (⟨#[]⟩ : ByteArray) [] []) false [] [] [] [] [] []) [] r1.1 [] 0 0), (⟨#[117, 49]⟩ : ByteArray)) fun r2 =>
    .bld E.GEvent [(GEvent.mk 1 27 0 0 0 0 0 (⟨#[]⟩ : ByteArray) (⟨#[117, 49]⟩ : ByteArray) (GVal.mk 0 0 (⟨#[]⟩ : ByteArray) [] []) (GPolicy.mk (⟨#[]⟩ : ByteArray) 0 0 0 0 0 0 0 0 []))] <|
    .call Try.m75 ((GRun.mk (⟨#[]⟩ : ByteArray) (⟨#[]⟩ : ByteArray) (⟨#[]⟩ : ByteArray) 0 [(GEvent.mk 1 27 0 0 0 0 0 (⟨#[]⟩ : ByteArray) (⟨#[117, 49]⟩ : ByteArray) (GVal.mk 0 0 (⟨#[]⟩ : ByteArray) [] []) (GPolicy.mk (⟨#[]⟩ : ByteArray) 0 0 0 0 0 0 0 0 []))] (GPending.mk 0 0 0 0 0 0 (⟨#[]⟩ : ByteArray) (GVal.mk 0 0 (⟨#[]⟩ : ByteArray) [] []) (GVal.mk 0 0 (⟨#[]⟩ : ByteArray) [] []) false [] [] [] [] [] []) [] [] [] 0 0), (⟨#[117, 49]⟩ : ByteArray)) fun r3 =>
    .ite 40 (r2.1 == 1)
    (.ite 44 (r3.1 == 2)
    (.elem E.GAdmit r1.1 0 fun a4 =>
    .ret (strEq a4.Key (⟨#[117, 49]⟩ : ByteArray)))
    (.ret false))
    (.ret false))))
noncomputable def Try.c74 : Empty → Cert Try.prog Empty Bool := fun j => nomatch j
theorem Try.h74 : execC Try.prog Try.x74 Try.b74 [] (topC Try.prog Try.x74) (Try.a74) (ES.init []) :=
  of_triv (rs := Try.x74.rs) (snap := Try.x74.snap) (c := Try.a74) (by kernel_rfl)
theorem Try.g74 : ∀ j, chkAt Try.prog Try.x74 Try.b74 (Try.x74.path j) (Try.c74 j) (Try.x74.snap j).es := fun j => nomatch j
noncomputable def Try.m74 : Mir Try.prog 74 Unit Bool where
  fs := []
  ga := fun x => []
  caps := fun x => []
  res := Try.x74.res
  outs := Try.x74.outs
  R := fun x y => Runs (Try.a74) (KOf (fun j => Ev (Try.c74) j y) y)
  ok := fun x y h => sys_ok (cx := Try.x74) (body := Try.b74) Try.follow Try.func74 (by kernel_rfl) (by kernel_rfl) (by kernel_rfl) (by kernel_rfl) _ (Nat.le_of_ble_eq_true rfl) (by kernel_rfl) _ (Try.h74) (Try.g74) y h
  flat := true
  hflat := fun _ _ => flatE rfl
/-! ### 15 workflow/workflowlaw33.UpdateAdmit -/
noncomputable def Try.b15 : Code := Try.f15.body.getD .skip
noncomputable def Try.x15 : Cx Empty Bool where
  nt := 54
  rvs := [.tmp 6]
  mh := []
  res := fun y => [.one (.c (.bool y))]
  outs := fun y => []
  path := fun j => nomatch j
  sig := fun j => nomatch j
  snap := fun j => nomatch j
noncomputable def Try.a15 (l_0 : List GAdmit) (p_1 : GPending) (a_2 : GAdmit) : Cert Try.prog Empty Bool :=
    .call Try.m69 l_0 fun r1 =>
    .ite 16 (!r1)
    (.ret true)
    (.call Try.m70 a_2.Data fun r2 =>
    .ite 21 (decide (2000 < r2))
    (.ret true)
    (.call Try.m71 (l_0, p_1, a_2) fun r3 =>
    .call Try.m72 (l_0, p_1, a_2) fun r4 =>
    .ite 41 (r3.2.2 == r4.2.2)
    (.ite 46 (r3.2.1 == r4.2.1)
    (.call Try.m73 (r3.1, r4.1) fun r5 =>
    .ite 51 r5
    (.call Try.m74 () fun r6 =>
    .ret r6)
    (.ret false))
    (.ret false))
    (.ret false)))
noncomputable def Try.c15 : Empty → Cert Try.prog Empty Bool := fun j => nomatch j
theorem Try.h15 (l_0 : List GAdmit) (p_1 : GPending) (a_2 : GAdmit) : execC Try.prog Try.x15 Try.b15 [] (topC Try.prog Try.x15) (Try.a15 l_0 p_1 a_2) (ES.init [.val (.one (.c (.sl (E.GAdmit.L l_0)))), .val (.agg ((GPending.cs p_1).map R.c)), .val (.agg ((GAdmit.cs a_2).map R.c))]) :=
  of_triv (rs := Try.x15.rs) (snap := Try.x15.snap) (c := Try.a15 l_0 p_1 a_2) (by kernel_rfl)
theorem Try.g15 : ∀ j, chkAt Try.prog Try.x15 Try.b15 (Try.x15.path j) (Try.c15 j) (Try.x15.snap j).es := fun j => nomatch j
noncomputable def Try.m15 : Mir Try.prog 15 ((List GAdmit) × GPending × GAdmit) Bool where
  fs := [.one none, .agg (List.replicate 24 none), .agg (List.replicate 7 none)]
  ga := fun x => [.val (.one (.c (.sl (E.GAdmit.L x.1)))), .val (.agg ((GPending.cs x.2.1).map R.c)), .val (.agg ((GAdmit.cs x.2.2).map R.c))]
  caps := fun x => []
  res := Try.x15.res
  outs := Try.x15.outs
  R := fun x y => Runs (Try.a15 x.1 x.2.1 x.2.2) (KOf (fun j => Ev (Try.c15) j y) y)
  ok := fun x y h => sys_ok (cx := Try.x15) (body := Try.b15) Try.follow Try.func15 (by kernel_rfl) (by kernel_rfl) (by kernel_rfl) (by kernel_rfl) _ (Nat.le_of_ble_eq_true rfl) (by kernel_rfl) _ (Try.h15 x.1 x.2.1 x.2.2) (Try.g15) y h
  flat := true
  hflat := fun _ _ => flatE rfl
/-! ### 16 workflow/workflowlaw33.UpdateOutcome -/
noncomputable def Try.b16 : Code := Try.f16.body.getD .skip
noncomputable def Try.x16 : Cx Empty Bool where
  nt := 46
  rvs := [.tmp 6]
  mh := []
  res := fun y => [.one (.c (.bool y))]
  outs := fun y => []
  path := fun j => nomatch j
  sig := fun j => nomatch j
  snap := fun j => nomatch j
noncomputable def Try.a16 (l_0 : List GEvent) (a_1 : List GAdmit) (key_2 : ByteArray) : Cert Try.prog Empty Bool :=
    .len E.GEvent l_0 <|
    .ite 15 (decide (200 < (l_0.length : Int)))
    (.ret true)
    (.call Try.m69 a_1 fun r1 =>
    .ite 19 (!r1)
    (.ret true)
    (.call Try.m75 ((GRun.mk (⟨#[]⟩ : ByteArray) (⟨#[]⟩ : ByteArray) (⟨#[]⟩ : ByteArray) 0 l_0 (GPending.mk 0 0 0 0 0 0 (⟨#[]⟩ : ByteArray) (GVal.mk 0 0 (⟨#[]⟩ : ByteArray) [] []) (GVal.mk 0 0 (⟨#[]⟩ : ByteArray) [] []) false [] [] [] [] [] []) [] a_1 [] 0 0), key_2) fun r2 =>
    .call Try.m76 ((GRun.mk (⟨#[]⟩ : ByteArray) (⟨#[]⟩ : ByteArray) (⟨#[]⟩ : ByteArray) 0 l_0 (GPending.mk 0 0 0 0 0 0 (⟨#[]⟩ : ByteArray) (GVal.mk 0 0 (⟨#[]⟩ : ByteArray) [] []) (GVal.mk 0 0 (⟨#[]⟩ : ByteArray) [] []) false [] [] [] [] [] []) [] a_1 [] 0 0), key_2) fun r3 =>
    .ite 38 (r2.1 == r3.1)
    (.call Try.m56 (r2.2, r3.2) fun r4 =>
    .ite 43 r4
    (.call Try.m74 () fun r5 =>
    .ret r5)
    (.ret false))
    (.ret false)))
noncomputable def Try.c16 : Empty → Cert Try.prog Empty Bool := fun j => nomatch j
theorem Try.h16 (l_0 : List GEvent) (a_1 : List GAdmit) (key_2 : ByteArray) : execC Try.prog Try.x16 Try.b16 [] (topC Try.prog Try.x16) (Try.a16 l_0 a_1 key_2) (ES.init [.val (.one (.c (.sl (E.GEvent.L l_0)))), .val (.one (.c (.sl (E.GAdmit.L a_1)))), .val (.one (.c (.str key_2)))]) :=
  of_triv (rs := Try.x16.rs) (snap := Try.x16.snap) (c := Try.a16 l_0 a_1 key_2) (by kernel_rfl)
theorem Try.g16 : ∀ j, chkAt Try.prog Try.x16 Try.b16 (Try.x16.path j) (Try.c16 j) (Try.x16.snap j).es := fun j => nomatch j
noncomputable def Try.m16 : Mir Try.prog 16 ((List GEvent) × (List GAdmit) × ByteArray) Bool where
  fs := [.one none, .one none, .one none]
  ga := fun x => [.val (.one (.c (.sl (E.GEvent.L x.1)))), .val (.one (.c (.sl (E.GAdmit.L x.2.1)))), .val (.one (.c (.str x.2.2)))]
  caps := fun x => []
  res := Try.x16.res
  outs := Try.x16.outs
  R := fun x y => Runs (Try.a16 x.1 x.2.1 x.2.2) (KOf (fun j => Ev (Try.c16) j y) y)
  ok := fun x y h => sys_ok (cx := Try.x16) (body := Try.b16) Try.follow Try.func16 (by kernel_rfl) (by kernel_rfl) (by kernel_rfl) (by kernel_rfl) _ (Nat.le_of_ble_eq_true rfl) (by kernel_rfl) _ (Try.h16 x.1 x.2.1 x.2.2) (Try.g16) y h
  flat := true
  hflat := fun _ _ => flatE rfl
/-! ### 17 workflow/workflowlaw33.UpdateSettle -/
noncomputable def Try.b17 : Code := Try.f17.body.getD .skip
noncomputable def Try.x17 : Cx Empty Bool where
  nt := 32
  rvs := [.tmp 6]
  mh := []
  res := fun y => [.one (.c (.bool y))]
  outs := fun y => []
  path := fun j => nomatch j
  sig := fun j => nomatch j
  snap := fun j => nomatch j
noncomputable def Try.a17 (l_0 : List GAdmit) (cmds_1 : List GCommand) (rejected_2 : List ByteArray) : Cert Try.prog Empty Bool :=
    .call Try.m69 l_0 fun r1 =>
    .ite 10 (!r1)
    (.ret true)
    (.len E.GCommand cmds_1 <|
    .ite 15 (decide (100 < (cmds_1.length : Int)))
    (.ret true)
    (.len E.str rejected_2 <|
    .ite 19 (decide (100 < (rejected_2.length : Int)))
    (.ret true)
    (.call Try.m77 (l_0, cmds_1, rejected_2) fun r2 =>
    .call Try.m78 (l_0, cmds_1, rejected_2) fun r3 =>
    .call Try.m73 (r2, r3) fun r4 =>
    .ite 29 r4
    (.call Try.m74 () fun r5 =>
    .ret r5)
    (.ret false))))
noncomputable def Try.c17 : Empty → Cert Try.prog Empty Bool := fun j => nomatch j
theorem Try.h17 (l_0 : List GAdmit) (cmds_1 : List GCommand) (rejected_2 : List ByteArray) : execC Try.prog Try.x17 Try.b17 [] (topC Try.prog Try.x17) (Try.a17 l_0 cmds_1 rejected_2) (ES.init [.val (.one (.c (.sl (E.GAdmit.L l_0)))), .val (.one (.c (.sl (E.GCommand.L cmds_1)))), .val (.one (.c (.sl (E.str.L rejected_2))))]) :=
  of_triv (rs := Try.x17.rs) (snap := Try.x17.snap) (c := Try.a17 l_0 cmds_1 rejected_2) (by kernel_rfl)
theorem Try.g17 : ∀ j, chkAt Try.prog Try.x17 Try.b17 (Try.x17.path j) (Try.c17 j) (Try.x17.snap j).es := fun j => nomatch j
noncomputable def Try.m17 : Mir Try.prog 17 ((List GAdmit) × (List GCommand) × (List ByteArray)) Bool where
  fs := [.one none, .one none, .one none]
  ga := fun x => [.val (.one (.c (.sl (E.GAdmit.L x.1)))), .val (.one (.c (.sl (E.GCommand.L x.2.1)))), .val (.one (.c (.sl (E.str.L x.2.2))))]
  caps := fun x => []
  res := Try.x17.res
  outs := Try.x17.outs
  R := fun x y => Runs (Try.a17 x.1 x.2.1 x.2.2) (KOf (fun j => Ev (Try.c17) j y) y)
  ok := fun x y h => sys_ok (cx := Try.x17) (body := Try.b17) Try.follow Try.func17 (by kernel_rfl) (by kernel_rfl) (by kernel_rfl) (by kernel_rfl) _ (Nat.le_of_ble_eq_true rfl) (by kernel_rfl) _ (Try.h17 x.1 x.2.1 x.2.2) (Try.g17) y h
  flat := true
  hflat := fun _ _ => flatE rfl
/-! ### 18 workflow/workflowlaw33.UpdateOnce -/
inductive Try.J18 where
  | s0 (a_t4 : GAdmit) (y_t10 : List GAdmit) (cmds_t13 : List GCommand) (rejected_t14 : List ByteArray)
noncomputable def Try.b18 : Code := Try.f18.body.getD .skip
noncomputable def Try.x18 : Cx Try.J18 Bool where
  nt := 87
  rvs := [.tmp 6]
  mh := []
  res := fun y => [.one (.c (.bool y))]
  outs := fun y => []
  path := fun
    | .s0 _ _ _ _ => [1, 1, 1, 1, 1, 1, 1, 1, 1]
  sig := fun
    | .s0 _ _ _ _ => [4, 10, 13, 14]
  snap := fun
    | .s0 a_t4 y_t10 cmds_t13 rejected_t14 => ⟨[(4, .one (.ptr 0 1 0)), (10, .one (.own 1 1)), (13, .one (.own 2 1)), (14, .one (.own 3 1))], [((0, 1), .box ((GAdmit.cs a_t4).map A.c)), ((1, 1), .arr 81 7 (E.GAdmit.L y_t10)), ((2, 1), .arr 99 20 (E.GCommand.L cmds_t13)), ((3, 1), .arr 9 1 (E.str.L rejected_t14))]⟩
noncomputable def Try.a18 (l_0 : List GAdmit) (a_1 : GAdmit) (accept_2 : Bool) : Cert Try.prog Try.J18 Bool :=
    .call Try.m69 l_0 fun r1 =>
    .ite 21 (!r1)
    (.ret true)
    (.call Try.m70 a_1.Data fun r2 =>
    .ite 26 (decide (200 < r2))
    (.ret true)
    (.call Try.m71 (l_0, (GPending.mk 0 0 0 0 0 0 (⟨#[]⟩ : ByteArray) (GVal.mk 0 0 (⟨#[]⟩ : ByteArray) [] []) (GVal.mk 0 0 (⟨#[]⟩ : ByteArray) [] []) false [] [] [] [] [] []), a_1) fun r3 =>
    .ite 36 (r3.2.2 != 0)
    (.call Try.m74 () fun r4 =>
    .ret r4)
    (.call Try.m71 (r3.1, (GPending.mk 0 0 0 0 0 0 (⟨#[]⟩ : ByteArray) (GVal.mk 0 0 (⟨#[]⟩ : ByteArray) [] []) (GVal.mk 0 0 (⟨#[]⟩ : ByteArray) [] []) false [] [] [] [] [] []), a_1) fun r5 =>
    .ite 48 (r5.2.2 != 0)
    (.ret false)
    (.ite 52 (!r5.2.1)
    (.ret false)
    (.call Try.m73 (r3.1, r5.1) fun r6 =>
    .ite 57 (!r6)
    (.ret false)
    (.ite 58 accept_2
    (.bld E.GCommand [(GCommand.mk 8 0 (⟨#[]⟩ : ByteArray) a_1.Key 0 (GVal.mk 0 0 (⟨#[]⟩ : ByteArray) [] []) (GPolicy.mk (⟨#[]⟩ : ByteArray) 0 0 0 0 0 0 0 0 []))] <|
    .app E.GCommand 240 [] [(GCommand.mk 8 0 (⟨#[]⟩ : ByteArray) a_1.Key 0 (GVal.mk 0 0 (⟨#[]⟩ : ByteArray) [] []) (GPolicy.mk (⟨#[]⟩ : ByteArray) 0 0 0 0 0 0 0 0 []))] <|
    .adoptT 14 9 1 <|
    .jump (.s0 a_1 r5.1 ([] ++ [(GCommand.mk 8 0 (⟨#[]⟩ : ByteArray) a_1.Key 0 (GVal.mk 0 0 (⟨#[]⟩ : ByteArray) [] []) (GPolicy.mk (⟨#[]⟩ : ByteArray) 0 0 0 0 0 0 0 0 []))]) []) [(4000, 1), (42000, 1), (64000, 1), (14999, 1)])
    (.bld E.str [a_1.Key] <|
    .app E.str 16 [] [a_1.Key] <|
    .adoptT 13 99 20 <|
    .jump (.s0 a_1 r5.1 [] ([] ++ [a_1.Key])) [(4000, 1), (42000, 1), (13999, 1), (69000, 1)])))))))
noncomputable def Try.c18 : Try.J18 → Cert Try.prog Try.J18 Bool
  | .s0 a_t4 y_t10 cmds_t13 rejected_t14 =>
    .call Try.m77 (y_t10, cmds_t13, rejected_t14) fun r7 =>
    .call Try.m75 ((GRun.mk (⟨#[]⟩ : ByteArray) (⟨#[]⟩ : ByteArray) (⟨#[]⟩ : ByteArray) 0 [] (GPending.mk 0 0 0 0 0 0 (⟨#[]⟩ : ByteArray) (GVal.mk 0 0 (⟨#[]⟩ : ByteArray) [] []) (GVal.mk 0 0 (⟨#[]⟩ : ByteArray) [] []) false [] [] [] [] [] []) [] r7 [] 0 0), a_t4.Key) fun r8 =>
    .ite 84 (r8.1 == 0)
    (.call Try.m74 () fun r9 =>
    .ret r9)
    (.ret false)
theorem Try.h18 (l_0 : List GAdmit) (a_1 : GAdmit) (accept_2 : Bool) : execC Try.prog Try.x18 Try.b18 [] (topC Try.prog Try.x18) (Try.a18 l_0 a_1 accept_2) (ES.init [.val (.one (.c (.sl (E.GAdmit.L l_0)))), .val (.agg ((GAdmit.cs a_1).map R.c)), .val (.one (.c (.bool accept_2)))]) :=
  of_triv (rs := Try.x18.rs) (snap := Try.x18.snap) (c := Try.a18 l_0 a_1 accept_2) (by kernel_rfl)
theorem Try.g18 : ∀ j, chkAt Try.prog Try.x18 Try.b18 (Try.x18.path j) (Try.c18 j) (Try.x18.snap j).es
  | .s0 a_t4 y_t10 cmds_t13 rejected_t14 => of_triv (rs := Try.x18.rs) (snap := Try.x18.snap) (c := Try.c18 (.s0 a_t4 y_t10 cmds_t13 rejected_t14)) (by kernel_rfl)
noncomputable def Try.m18 : Mir Try.prog 18 ((List GAdmit) × GAdmit × Bool) Bool where
  fs := [.one none, .agg (List.replicate 7 none), .one none]
  ga := fun x => [.val (.one (.c (.sl (E.GAdmit.L x.1)))), .val (.agg ((GAdmit.cs x.2.1).map R.c)), .val (.one (.c (.bool x.2.2)))]
  caps := fun x => []
  res := Try.x18.res
  outs := Try.x18.outs
  R := fun x y => Runs (Try.a18 x.1 x.2.1 x.2.2) (KOf (fun j => Ev (Try.c18) j y) y)
  ok := fun x y h => sys_ok (cx := Try.x18) (body := Try.b18) Try.follow Try.func18 (by kernel_rfl) (by kernel_rfl) (by kernel_rfl) (by kernel_rfl) _ (Nat.le_of_ble_eq_true rfl) (by kernel_rfl) _ (Try.h18 x.1 x.2.1 x.2.2) (Try.g18) y h
  flat := true
  hflat := fun _ _ => flatE rfl
end Go.Proofs
