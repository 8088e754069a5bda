/- Printed by pr.py. -/
import Derived.Test.YtlgnflbekdldnaaAvU0
set_option linter.unusedVariables false
set_option maxRecDepth 100000
set_option maxHeartbeats 2000000
namespace Go.Proofs
open Go Go.AV
abbrev Try.O70 (Q : GVal → Int → Prop) : Prop := ∀ x y, Q x y → SpecG Try.prog 70 ([.val (.agg ((GVal.cs x).map R.c))] ++ ([] : List C).map fun c => .val (.one (.c c))) [.one (.c (.int .i64 y))] []
noncomputable def Try.w70 (Q : GVal → Int → Prop) (ok : Try.O70 Q) : Mir Try.prog 70 GVal Int where
  fs := [.agg (List.replicate 5 none)]
  ga := fun x => [.val (.agg ((GVal.cs x).map R.c))]
  caps := fun x => []
  res := fun y => [.one (.c (.int .i64 y))]
  outs := fun y => []
  R := Q
  ok := ok
  flat := true
  hflat := fun _ _ => flatE rfl
/-! ### 70 workflow/workflowref02.Size -/
inductive Try.J70 where
  | s0 (v_t1 : GVal) (n_t3 : Int) (i_t4 : Int)
noncomputable def Try.b70 : Code := Try.f70.body.getD .skip
noncomputable def Try.x70 : Cx Try.J70 Int where
  nt := 21
  rvs := [.tmp 2]
  mh := []
  res := fun y => [.one (.c (.int .i64 y))]
  outs := fun y => []
  path := fun
    | .s0 _ _ _ => [0, 1, 0, 1, 1]
  sig := fun
    | .s0 _ _ _ => [1, 3, 4]
  snap := fun
    | .s0 v_t1 n_t3 i_t4 => ⟨[(1, .one (.ptr 0 1 0)), (3, .one (.c (.int .i64 n_t3))), (4, .one (.c (.int .i64 i_t4)))], [((0, 1), .box ((GVal.cs v_t1).map A.c))]⟩
noncomputable def Try.a70 (R70 : GVal → Int → Prop) (ok70 : Try.O70 R70) (v_0 : GVal) : Cert Try.prog Try.J70 Int :=
    .jump (.s0 v_0 1 0) [(1000, 1)]
noncomputable def Try.c70 (R70 : GVal → Int → Prop) (ok70 : Try.O70 R70) : Try.J70 → Cert Try.prog Try.J70 Int
  | .s0 v_t1 n_t3 i_t4 =>
    .len E.GVal v_t1.Items <|
    .ite 9 (decide (i_t4 < (v_t1.Items.length : Int)))
    (.elem E.GVal v_t1.Items i_t4 fun a1 =>
    .call (Try.w70 R70 ok70) a1 fun r2 =>
    .jump (.s0 v_t1 (IntKind.i64.wrap (n_t3 + r2)) (IntKind.i64.wrap (i_t4 + 1))) [(0, 1)])
    (.ret n_t3)
theorem Try.h70 (R70 : GVal → Int → Prop) (ok70 : Try.O70 R70) (v_0 : GVal) : execC Try.prog Try.x70 Try.b70 [] (topC Try.prog Try.x70) (Try.a70 R70 ok70 v_0) (ES.init [.val (.agg ((GVal.cs v_0).map R.c))]) :=
  of_triv (rs := Try.x70.rs) (snap := Try.x70.snap) (c := Try.a70 R70 ok70 v_0) (by kernel_rfl)
theorem Try.g70 (R70 : GVal → Int → Prop) (ok70 : Try.O70 R70) : ∀ j, chkAt Try.prog Try.x70 Try.b70 (Try.x70.path j) ((Try.c70 R70 ok70) j) (Try.x70.snap j).es
  | .s0 v_t1 n_t3 i_t4 => of_triv (rs := Try.x70.rs) (snap := Try.x70.snap) (c := Try.c70 R70 ok70 (.s0 v_t1 n_t3 i_t4)) (by kernel_rfl)
noncomputable def Try.n70 : Nat → {Q : GVal → Int → Prop // Try.O70 Q}
  | 0 => ⟨fun _ _ => False, fun _ _ h => h.elim⟩
  | n + 1 => ⟨fun x y => Runs (Try.a70 (Try.n70 n).1 (Try.n70 n).2 x) (KOf (fun j => Ev (Try.c70 (Try.n70 n).1 (Try.n70 n).2) j y) y), fun x y h => sys_ok (cx := Try.x70) (body := Try.b70) Try.follow Try.func70 (by kernel_rfl) (by kernel_rfl) (by kernel_rfl) (by kernel_rfl) _ (Nat.le_of_ble_eq_true rfl) (by kernel_rfl) _ (Try.h70 (Try.n70 n).1 (Try.n70 n).2 x) (Try.g70 (Try.n70 n).1 (Try.n70 n).2) y h⟩
noncomputable def Try.m70 : Mir Try.prog 70 GVal Int := Try.w70 (fun x y => ∃ n, (Try.n70 n).1 x y) (fun x y h => (Try.n70 h.choose).2 x y h.choose_spec)
abbrev Try.O217 (Q : GVal → Int → Prop) : Prop := ∀ x y, Q x y → SpecG Try.prog 217 ([.val (.agg ((GVal.cs x).map R.c))] ++ ([] : List C).map fun c => .val (.one (.c c))) [.one (.c (.int .i64 y))] []
noncomputable def Try.w217 (Q : GVal → Int → Prop) (ok : Try.O217 Q) : Mir Try.prog 217 GVal Int where
  fs := [.agg (List.replicate 5 none)]
  ga := fun x => [.val (.agg ((GVal.cs x).map R.c))]
  caps := fun x => []
  res := fun y => [.one (.c (.int .i64 y))]
  outs := fun y => []
  R := Q
  ok := ok
  flat := true
  hflat := fun _ _ => flatE rfl
/-! ### 217 workflow/value.Depth -/
inductive Try.J217 where
  | s0 (n_t3 : Int) (t7 : List GVal) (t8 : Int) (t9 : Int)
noncomputable def Try.b217 : Code := Try.f217.body.getD .skip
noncomputable def Try.x217 : Cx Try.J217 Int where
  nt := 20
  rvs := [.tmp 2]
  mh := []
  res := fun y => [.one (.c (.int .i64 y))]
  outs := fun y => []
  path := fun
    | .s0 _ _ _ _ => [0, 1, 0, 1, 1]
  sig := fun
    | .s0 _ _ _ _ => [3, 7, 8, 9]
  snap := fun
    | .s0 n_t3 t7 t8 t9 => ⟨[(3, .one (.c (.int .i64 n_t3))), (7, .one (.c (.sl (E.GVal.L t7)))), (8, .one (.c (.int .i64 t8))), (9, .one (.c (.int .i64 t9)))], []⟩
noncomputable def Try.a217 (R217 : GVal → Int → Prop) (ok217 : Try.O217 R217) (v_0 : GVal) : Cert Try.prog Try.J217 Int :=
    .len E.GVal v_0.Items <|
    .jump (.s0 0 v_0.Items (v_0.Items.length : Int) 0) []
noncomputable def Try.c217 (R217 : GVal → Int → Prop) (ok217 : Try.O217 R217) : Try.J217 → Cert Try.prog Try.J217 Int
  | .s0 n_t3 t7 t8 t9 =>
    .ite 10 (decide (t9 < t8))
    (.elem E.GVal t7 t9 fun a1 =>
    .call (Try.w217 R217 ok217) a1 fun r2 =>
    .jump (.s0 (if n_t3 < r2 then r2 else n_t3) t7 t8 (IntKind.i64.wrap (t9 + 1))) [])
    (.ret (IntKind.i64.wrap (n_t3 + 1)))
theorem Try.h217 (R217 : GVal → Int → Prop) (ok217 : Try.O217 R217) (v_0 : GVal) : execC Try.prog Try.x217 Try.b217 [] (topC Try.prog Try.x217) (Try.a217 R217 ok217 v_0) (ES.init [.val (.agg ((GVal.cs v_0).map R.c))]) :=
  of_triv (rs := Try.x217.rs) (snap := Try.x217.snap) (c := Try.a217 R217 ok217 v_0) (by kernel_rfl)
theorem Try.g217 (R217 : GVal → Int → Prop) (ok217 : Try.O217 R217) : ∀ j, chkAt Try.prog Try.x217 Try.b217 (Try.x217.path j) ((Try.c217 R217 ok217) j) (Try.x217.snap j).es
  | .s0 n_t3 t7 t8 t9 => of_triv (rs := Try.x217.rs) (snap := Try.x217.snap) (c := Try.c217 R217 ok217 (.s0 n_t3 t7 t8 t9)) (by kernel_rfl)
noncomputable def Try.n217 : Nat → {Q : GVal → Int → Prop // Try.O217 Q}
  | 0 => ⟨fun _ _ => False, fun _ _ h => h.elim⟩
  | n + 1 => ⟨fun x y => Runs (Try.a217 (Try.n217 n).1 (Try.n217 n).2 x) (KOf (fun j => Ev (Try.c217 (Try.n217 n).1 (Try.n217 n).2) j y) y), fun x y h => sys_ok (cx := Try.x217) (body := Try.b217) Try.follow Try.func217 (by kernel_rfl) (by kernel_rfl) (by kernel_rfl) (by kernel_rfl) _ (Nat.le_of_ble_eq_true rfl) (by kernel_rfl) _ (Try.h217 (Try.n217 n).1 (Try.n217 n).2 x) (Try.g217 (Try.n217 n).1 (Try.n217 n).2) y h⟩
noncomputable def Try.m217 : Mir Try.prog 217 GVal Int := Try.w217 (fun x y => ∃ n, (Try.n217 n).1 x y) (fun x y h => (Try.n217 h.choose).2 x y h.choose_spec)
abbrev Try.O218 (Q : GVal → Int → Prop) : Prop := ∀ x y, Q x y → SpecG Try.prog 218 ([.val (.agg ((GVal.cs x).map R.c))] ++ ([] : List C).map fun c => .val (.one (.c c))) [.one (.c (.int .i64 y))] []
noncomputable def Try.w218 (Q : GVal → Int → Prop) (ok : Try.O218 Q) : Mir Try.prog 218 GVal Int where
  fs := [.agg (List.replicate 5 none)]
  ga := fun x => [.val (.agg ((GVal.cs x).map R.c))]
  caps := fun x => []
  res := fun y => [.one (.c (.int .i64 y))]
  outs := fun y => []
  R := Q
  ok := ok
  flat := true
  hflat := fun _ _ => flatE rfl
/-! ### 218 workflow/value.Size -/
inductive Try.J218 where
  | s0 (n_t3 : Int) (t7 : List GVal) (t8 : Int) (t9 : Int)
noncomputable def Try.b218 : Code := Try.f218.body.getD .skip
noncomputable def Try.x218 : Cx Try.J218 Int where
  nt := 19
  rvs := [.tmp 2]
  mh := []
  res := fun y => [.one (.c (.int .i64 y))]
  outs := fun y => []
  path := fun
    | .s0 _ _ _ _ => [0, 1, 0, 1, 1]
  sig := fun
    | .s0 _ _ _ _ => [3, 7, 8, 9]
  snap := fun
    | .s0 n_t3 t7 t8 t9 => ⟨[(3, .one (.c (.int .i64 n_t3))), (7, .one (.c (.sl (E.GVal.L t7)))), (8, .one (.c (.int .i64 t8))), (9, .one (.c (.int .i64 t9)))], []⟩
noncomputable def Try.a218 (R218 : GVal → Int → Prop) (ok218 : Try.O218 R218) (v_0 : GVal) : Cert Try.prog Try.J218 Int :=
    .len E.GVal v_0.Items <|
    .jump (.s0 1 v_0.Items (v_0.Items.length : Int) 0) []
noncomputable def Try.c218 (R218 : GVal → Int → Prop) (ok218 : Try.O218 R218) : Try.J218 → Cert Try.prog Try.J218 Int
  | .s0 n_t3 t7 t8 t9 =>
    .ite 10 (decide (t9 < t8))
    (.elem E.GVal t7 t9 fun a1 =>
    .call (Try.w218 R218 ok218) a1 fun r2 =>
    .jump (.s0 (IntKind.i64.wrap (n_t3 + r2)) t7 t8 (IntKind.i64.wrap (t9 + 1))) [])
    (.ret n_t3)
theorem Try.h218 (R218 : GVal → Int → Prop) (ok218 : Try.O218 R218) (v_0 : GVal) : execC Try.prog Try.x218 Try.b218 [] (topC Try.prog Try.x218) (Try.a218 R218 ok218 v_0) (ES.init [.val (.agg ((GVal.cs v_0).map R.c))]) :=
  of_triv (rs := Try.x218.rs) (snap := Try.x218.snap) (c := Try.a218 R218 ok218 v_0) (by kernel_rfl)
theorem Try.g218 (R218 : GVal → Int → Prop) (ok218 : Try.O218 R218) : ∀ j, chkAt Try.prog Try.x218 Try.b218 (Try.x218.path j) ((Try.c218 R218 ok218) j) (Try.x218.snap j).es
  | .s0 n_t3 t7 t8 t9 => of_triv (rs := Try.x218.rs) (snap := Try.x218.snap) (c := Try.c218 R218 ok218 (.s0 n_t3 t7 t8 t9)) (by kernel_rfl)
noncomputable def Try.n218 : Nat → {Q : GVal → Int → Prop // Try.O218 Q}
  | 0 => ⟨fun _ _ => False, fun _ _ h => h.elim⟩
  | n + 1 => ⟨fun x y => Runs (Try.a218 (Try.n218 n).1 (Try.n218 n).2 x) (KOf (fun j => Ev (Try.c218 (Try.n218 n).1 (Try.n218 n).2) j y) y), fun x y h => sys_ok (cx := Try.x218) (body := Try.b218) Try.follow Try.func218 (by kernel_rfl) (by kernel_rfl) (by kernel_rfl) (by kernel_rfl) _ (Nat.le_of_ble_eq_true rfl) (by kernel_rfl) _ (Try.h218 (Try.n218 n).1 (Try.n218 n).2 x) (Try.g218 (Try.n218 n).1 (Try.n218 n).2) y h⟩
noncomputable def Try.m218 : Mir Try.prog 218 GVal Int := Try.w218 (fun x y => ∃ n, (Try.n218 n).1 x y) (fun x y h => (Try.n218 h.choose).2 x y h.choose_spec)
abbrev Try.O219 (Q : GVal → Bool → Prop) : Prop := ∀ x y, Q x y → SpecG Try.prog 219 ([.val (.agg ((GVal.cs x).map R.c))] ++ ([] : List C).map fun c => .val (.one (.c c))) [.one (.c (.bool y))] []
noncomputable def Try.w219 (Q : GVal → Bool → Prop) (ok : Try.O219 Q) : Mir Try.prog 219 GVal Bool where
  fs := [.agg (List.replicate 5 none)]
  ga := fun x => [.val (.agg ((GVal.cs x).map R.c))]
  caps := fun x => []
  res := fun y => [.one (.c (.bool y))]
  outs := fun y => []
  R := Q
  ok := ok
  flat := true
  hflat := fun _ _ => flatE rfl
abbrev Try.Clo172 : Type := Clo Try.prog ByteArray Bool [.one none] (fun x => [.val (.one (.c (.str x)))]) (fun y => [.one (.c (.bool y))])
noncomputable def Try.clo172 (c : Try.Clo172) := Clo.mir c true (fun _ _ => flatE rfl)
/-! ### 214 slices.IndexFunc[[]string,string] -/
inductive Try.J214 where
  | s0 (s_t0 : List ByteArray) (f_t1 : Try.Clo172) (t7 : Int) (t8 : Int)
noncomputable def Try.b214 : Code := Try.f214.body.getD .skip
noncomputable def Try.x214 : Cx Try.J214 Int where
  nt := 19
  rvs := [.tmp 4]
  mh := []
  res := fun y => [.one (.c (.int .i64 y))]
  outs := fun y => []
  path := fun
    | .s0 _ _ _ _ => [0, 1, 0, 1]
  sig := fun
    | .s0 _ _ _ _ => [0, 1, 7, 8]
  snap := fun
    | .s0 s_t0 f_t1 t7 t8 => ⟨[(0, .one (.c (.sl (E.str.L s_t0)))), (1, .one (.c (.fn f_t1.f f_t1.caps))), (7, .one (.c (.int .i64 t7))), (8, .one (.c (.int .i64 t8)))], []⟩
noncomputable def Try.a214 (s_0 : List ByteArray) (f_1 : Try.Clo172) : Cert Try.prog Try.J214 Int :=
    .len E.str s_0 <|
    .jump (.s0 s_0 f_1 (s_0.length : Int) 0) []
noncomputable def Try.c214 : Try.J214 → Cert Try.prog Try.J214 Int
  | .s0 s_t0 f_t1 t7 t8 =>
    .ite 9 (decide (t8 < t7))
    (.elem E.str s_t0 t8 fun a1 =>
    .call (Try.clo172 f_t1) a1 fun r2 =>
    .ite 16 r2
    (.ret t8)
    (.jump (.s0 s_t0 f_t1 t7 (IntKind.i64.wrap (t8 + 1))) []))
    (.ret (-1))
theorem Try.h214 (s_0 : List ByteArray) (f_1 : Try.Clo172) : execC Try.prog Try.x214 Try.b214 [] (topC Try.prog Try.x214) (Try.a214 s_0 f_1) (ES.init [.val (.one (.c (.sl (E.str.L s_0)))), .val (.one (.c (.fn f_1.f f_1.caps)))]) :=
  of_triv (rs := Try.x214.rs) (snap := Try.x214.snap) (c := Try.a214 s_0 f_1) (by kernel_rfl)
theorem Try.g214 : ∀ j, chkAt Try.prog Try.x214 Try.b214 (Try.x214.path j) (Try.c214 j) (Try.x214.snap j).es
  | .s0 s_t0 f_t1 t7 t8 => of_triv (rs := Try.x214.rs) (snap := Try.x214.snap) (c := Try.c214 (.s0 s_t0 f_t1 t7 t8)) (by kernel_rfl)
noncomputable def Try.m214 : Mir Try.prog 214 ((List ByteArray) × Try.Clo172) Int where
  fs := [.one none, .one none]
  ga := fun x => [.val (.one (.c (.sl (E.str.L x.1)))), .val (.one (.c (.fn x.2.f x.2.caps)))]
  caps := fun x => []
  res := Try.x214.res
  outs := Try.x214.outs
  R := fun x y => Runs (Try.a214 x.1 x.2) (KOf (fun j => Ev (Try.c214) j y) y)
  ok := fun x y h => sys_ok (cx := Try.x214) (body := Try.b214) Try.follow Try.func214 (by kernel_rfl) (by kernel_rfl) (by kernel_rfl) (by kernel_rfl) _ (Nat.le_of_ble_eq_true rfl) (by kernel_rfl) _ (Try.h214 x.1 x.2) (Try.g214) y h
  flat := true
  hflat := fun _ _ => flatE rfl
/-! ### 188 slices.ContainsFunc[[]string,string] -/
noncomputable def Try.b188 : Code := Try.f188.body.getD .skip
noncomputable def Try.x188 : Cx Empty Bool where
  nt := 9
  rvs := [.tmp 4]
  mh := []
  res := fun y => [.one (.c (.bool y))]
  outs := fun y => []
  path := fun j => nomatch j
  sig := fun j => nomatch j
  snap := fun j => nomatch j
noncomputable def Try.a188 (s_0 : List ByteArray) (f_1 : Try.Clo172) : Cert Try.prog Empty Bool :=
    .call Try.m214 (s_0, f_1) fun r1 =>
    .ret (decide (0 ≤ r1))
noncomputable def Try.c188 : Empty → Cert Try.prog Empty Bool := fun j => nomatch j
theorem Try.h188 (s_0 : List ByteArray) (f_1 : Try.Clo172) : execC Try.prog Try.x188 Try.b188 [] (topC Try.prog Try.x188) (Try.a188 s_0 f_1) (ES.init [.val (.one (.c (.sl (E.str.L s_0)))), .val (.one (.c (.fn f_1.f f_1.caps)))]) :=
  of_triv (rs := Try.x188.rs) (snap := Try.x188.snap) (c := Try.a188 s_0 f_1) (by kernel_rfl)
theorem Try.g188 : ∀ j, chkAt Try.prog Try.x188 Try.b188 (Try.x188.path j) (Try.c188 j) (Try.x188.snap j).es := fun j => nomatch j
noncomputable def Try.m188 : Mir Try.prog 188 ((List ByteArray) × Try.Clo172) Bool where
  fs := [.one none, .one none]
  ga := fun x => [.val (.one (.c (.sl (E.str.L x.1)))), .val (.one (.c (.fn x.2.f x.2.caps)))]
  caps := fun x => []
  res := Try.x188.res
  outs := Try.x188.outs
  R := fun x y => Runs (Try.a188 x.1 x.2) (KOf (fun j => Ev (Try.c188) j y) y)
  ok := fun x y h => sys_ok (cx := Try.x188) (body := Try.b188) Try.follow Try.func188 (by kernel_rfl) (by kernel_rfl) (by kernel_rfl) (by kernel_rfl) _ (Nat.le_of_ble_eq_true rfl) (by kernel_rfl) _ (Try.h188 x.1 x.2) (Try.g188) y h
  flat := true
  hflat := fun _ _ => flatE rfl
/-! ### 232 workflow/value.short$1 -/
noncomputable def Try.b232 : Code := Try.f232.body.getD .skip
noncomputable def Try.x232 : Cx Empty Bool where
  nt := 6
  rvs := [.tmp 2]
  mh := []
  res := fun y => [.one (.c (.bool y))]
  outs := fun y => []
  path := fun j => nomatch j
  sig := fun j => nomatch j
  snap := fun j => nomatch j
noncomputable def Try.a232 (k_0 : ByteArray) : Cert Try.prog Empty Bool :=
    .ret (decide (4096 < (k_0.size : Int)))
noncomputable def Try.c232 : Empty → Cert Try.prog Empty Bool := fun j => nomatch j
theorem Try.h232 (k_0 : ByteArray) : execC Try.prog Try.x232 Try.b232 [] (topC Try.prog Try.x232) (Try.a232 k_0) (ES.init [.val (.one (.c (.str k_0)))]) :=
  of_triv (rs := Try.x232.rs) (snap := Try.x232.snap) (c := Try.a232 k_0) (by kernel_rfl)
theorem Try.g232 : ∀ j, chkAt Try.prog Try.x232 Try.b232 (Try.x232.path j) (Try.c232 j) (Try.x232.snap j).es := fun j => nomatch j
noncomputable def Try.m232 : Mir Try.prog 232 ByteArray Bool where
  fs := [.one none]
  ga := fun x => [.val (.one (.c (.str x)))]
  caps := fun x => []
  res := Try.x232.res
  outs := Try.x232.outs
  R := fun x y => Runs (Try.a232 x) (KOf (fun j => Ev (Try.c232) j y) y)
  ok := fun x y h => sys_ok (cx := Try.x232) (body := Try.b232) Try.follow Try.func232 (by kernel_rfl) (by kernel_rfl) (by kernel_rfl) (by kernel_rfl) _ (Nat.le_of_ble_eq_true rfl) (by kernel_rfl) _ (Try.h232 x) (Try.g232) y h
  flat := true
  hflat := fun _ _ => flatE rfl
abbrev Try.Clo175 : Type := Clo Try.prog GVal Bool [.agg (List.replicate 5 none)] (fun x => [.val (.agg ((GVal.cs x).map R.c))]) (fun y => [.one (.c (.bool y))])
noncomputable def Try.clo175 (c : Try.Clo175) := Clo.mir c true (fun _ _ => flatE rfl)
/-! ### 234 slices.IndexFunc[[]workflow/api.Value,workflow/api.Value] -/
inductive Try.J234 where
  | s0 (s_t0 : List GVal) (f_t1 : Try.Clo175) (t7 : Int) (t8 : Int)
noncomputable def Try.b234 : Code := Try.f234.body.getD .skip
noncomputable def Try.x234 : Cx Try.J234 Int where
  nt := 19
  rvs := [.tmp 4]
  mh := []
  res := fun y => [.one (.c (.int .i64 y))]
  outs := fun y => []
  path := fun
    | .s0 _ _ _ _ => [0, 1, 0, 1]
  sig := fun
    | .s0 _ _ _ _ => [0, 1, 7, 8]
  snap := fun
    | .s0 s_t0 f_t1 t7 t8 => ⟨[(0, .one (.c (.sl (E.GVal.L s_t0)))), (1, .one (.c (.fn f_t1.f f_t1.caps))), (7, .one (.c (.int .i64 t7))), (8, .one (.c (.int .i64 t8)))], []⟩
noncomputable def Try.a234 (s_0 : List GVal) (f_1 : Try.Clo175) : Cert Try.prog Try.J234 Int :=
    .len E.GVal s_0 <|
    .jump (.s0 s_0 f_1 (s_0.length : Int) 0) []
noncomputable def Try.c234 : Try.J234 → Cert Try.prog Try.J234 Int
  | .s0 s_t0 f_t1 t7 t8 =>
    .ite 9 (decide (t8 < t7))
    (.elem E.GVal s_t0 t8 fun a1 =>
    .call (Try.clo175 f_t1) a1 fun r2 =>
    .ite 16 r2
    (.ret t8)
    (.jump (.s0 s_t0 f_t1 t7 (IntKind.i64.wrap (t8 + 1))) []))
    (.ret (-1))
theorem Try.h234 (s_0 : List GVal) (f_1 : Try.Clo175) : execC Try.prog Try.x234 Try.b234 [] (topC Try.prog Try.x234) (Try.a234 s_0 f_1) (ES.init [.val (.one (.c (.sl (E.GVal.L s_0)))), .val (.one (.c (.fn f_1.f f_1.caps)))]) :=
  of_triv (rs := Try.x234.rs) (snap := Try.x234.snap) (c := Try.a234 s_0 f_1) (by kernel_rfl)
theorem Try.g234 : ∀ j, chkAt Try.prog Try.x234 Try.b234 (Try.x234.path j) (Try.c234 j) (Try.x234.snap j).es
  | .s0 s_t0 f_t1 t7 t8 => of_triv (rs := Try.x234.rs) (snap := Try.x234.snap) (c := Try.c234 (.s0 s_t0 f_t1 t7 t8)) (by kernel_rfl)
noncomputable def Try.m234 : Mir Try.prog 234 ((List GVal) × Try.Clo175) Int where
  fs := [.one none, .one none]
  ga := fun x => [.val (.one (.c (.sl (E.GVal.L x.1)))), .val (.one (.c (.fn x.2.f x.2.caps)))]
  caps := fun x => []
  res := Try.x234.res
  outs := Try.x234.outs
  R := fun x y => Runs (Try.a234 x.1 x.2) (KOf (fun j => Ev (Try.c234) j y) y)
  ok := fun x y h => sys_ok (cx := Try.x234) (body := Try.b234) Try.follow Try.func234 (by kernel_rfl) (by kernel_rfl) (by kernel_rfl) (by kernel_rfl) _ (Nat.le_of_ble_eq_true rfl) (by kernel_rfl) _ (Try.h234 x.1 x.2) (Try.g234) y h
  flat := true
  hflat := fun _ _ => flatE rfl
/-! ### 221 slices.ContainsFunc[[]workflow/api.Value,workflow/api.Value] -/
noncomputable def Try.b221 : Code := Try.f221.body.getD .skip
noncomputable def Try.x221 : Cx Empty Bool where
  nt := 9
  rvs := [.tmp 4]
  mh := []
  res := fun y => [.one (.c (.bool y))]
  outs := fun y => []
  path := fun j => nomatch j
  sig := fun j => nomatch j
  snap := fun j => nomatch j
noncomputable def Try.a221 (s_0 : List GVal) (f_1 : Try.Clo175) : Cert Try.prog Empty Bool :=
    .call Try.m234 (s_0, f_1) fun r1 =>
    .ret (decide (0 ≤ r1))
noncomputable def Try.c221 : Empty → Cert Try.prog Empty Bool := fun j => nomatch j
theorem Try.h221 (s_0 : List GVal) (f_1 : Try.Clo175) : execC Try.prog Try.x221 Try.b221 [] (topC Try.prog Try.x221) (Try.a221 s_0 f_1) (ES.init [.val (.one (.c (.sl (E.GVal.L s_0)))), .val (.one (.c (.fn f_1.f f_1.caps)))]) :=
  of_triv (rs := Try.x221.rs) (snap := Try.x221.snap) (c := Try.a221 s_0 f_1) (by kernel_rfl)
theorem Try.g221 : ∀ j, chkAt Try.prog Try.x221 Try.b221 (Try.x221.path j) (Try.c221 j) (Try.x221.snap j).es := fun j => nomatch j
noncomputable def Try.m221 : Mir Try.prog 221 ((List GVal) × Try.Clo175) Bool where
  fs := [.one none, .one none]
  ga := fun x => [.val (.one (.c (.sl (E.GVal.L x.1)))), .val (.one (.c (.fn x.2.f x.2.caps)))]
  caps := fun x => []
  res := Try.x221.res
  outs := Try.x221.outs
  R := fun x y => Runs (Try.a221 x.1 x.2) (KOf (fun j => Ev (Try.c221) j y) y)
  ok := fun x y h => sys_ok (cx := Try.x221) (body := Try.b221) Try.follow Try.func221 (by kernel_rfl) (by kernel_rfl) (by kernel_rfl) (by kernel_rfl) _ (Nat.le_of_ble_eq_true rfl) (by kernel_rfl) _ (Try.h221 x.1 x.2) (Try.g221) y h
  flat := true
  hflat := fun _ _ => flatE rfl
/-! ### 233 workflow/value.short$2 -/
noncomputable def Try.b233 : Code := Try.f233.body.getD .skip
noncomputable def Try.x233 : Cx Empty Bool where
  nt := 6
  rvs := [.tmp 2]
  mh := []
  res := fun y => [.one (.c (.bool y))]
  outs := fun y => []
  path := fun j => nomatch j
  sig := fun j => nomatch j
  snap := fun j => nomatch j
noncomputable def Try.a233 (R219 : GVal → Bool → Prop) (ok219 : Try.O219 R219) (x_0 : GVal) : Cert Try.prog Empty Bool :=
    .call (Try.w219 R219 ok219) x_0 fun r1 =>
    .ret (!r1)
noncomputable def Try.c233 (R219 : GVal → Bool → Prop) (ok219 : Try.O219 R219) : Empty → Cert Try.prog Empty Bool := fun j => nomatch j
theorem Try.h233 (R219 : GVal → Bool → Prop) (ok219 : Try.O219 R219) (x_0 : GVal) : execC Try.prog Try.x233 Try.b233 [] (topC Try.prog Try.x233) (Try.a233 R219 ok219 x_0) (ES.init [.val (.agg ((GVal.cs x_0).map R.c))]) :=
  of_triv (rs := Try.x233.rs) (snap := Try.x233.snap) (c := Try.a233 R219 ok219 x_0) (by kernel_rfl)
theorem Try.g233 (R219 : GVal → Bool → Prop) (ok219 : Try.O219 R219) : ∀ j, chkAt Try.prog Try.x233 Try.b233 (Try.x233.path j) ((Try.c233 R219 ok219) j) (Try.x233.snap j).es := fun j => nomatch j
noncomputable def Try.m233 (R219 : GVal → Bool → Prop) (ok219 : Try.O219 R219) : Mir Try.prog 233 GVal Bool where
  fs := [.agg (List.replicate 5 none)]
  ga := fun x => [.val (.agg ((GVal.cs x).map R.c))]
  caps := fun x => []
  res := Try.x233.res
  outs := Try.x233.outs
  R := fun x y => Runs (Try.a233 R219 ok219 x) (KOf (fun j => Ev (Try.c233 R219 ok219) j y) y)
  ok := fun x y h => sys_ok (cx := Try.x233) (body := Try.b233) Try.follow Try.func233 (by kernel_rfl) (by kernel_rfl) (by kernel_rfl) (by kernel_rfl) _ (Nat.le_of_ble_eq_true rfl) (by kernel_rfl) _ (Try.h233 R219 ok219 x) (Try.g233 R219 ok219) y h
  flat := true
  hflat := fun _ _ => flatE rfl
/-! ### 219 workflow/value.short -/
noncomputable def Try.b219 : Code := Try.f219.body.getD .skip
noncomputable def Try.x219 : Cx Empty Bool where
  nt := 16
  rvs := [.tmp 2]
  mh := []
  res := fun y => [.one (.c (.bool y))]
  outs := fun y => []
  path := fun j => nomatch j
  sig := fun j => nomatch j
  snap := fun j => nomatch j
noncomputable def Try.a219 (R219 : GVal → Bool → Prop) (ok219 : Try.O219 R219) (v_0 : GVal) : Cert Try.prog Empty Bool :=
    .ite 7 (decide (4096 < (v_0.Text.size : Int)))
    (.ret false)
    (.call Try.m188 (v_0.Keys, (⟨232, [], fun a b => Try.m232.R a b, fun a b h => Try.m232.ok a b h⟩ : Try.Clo172)) fun r1 =>
    .ite 11 r1
    (.ret false)
    (.call Try.m221 (v_0.Items, (⟨233, [], fun a b => (Try.m233 R219 ok219).R a b, fun a b h => (Try.m233 R219 ok219).ok a b h⟩ : Try.Clo175)) fun r2 =>
    .ret (!r2)))
noncomputable def Try.c219 (R219 : GVal → Bool → Prop) (ok219 : Try.O219 R219) : Empty → Cert Try.prog Empty Bool := fun j => nomatch j
theorem Try.h219 (R219 : GVal → Bool → Prop) (ok219 : Try.O219 R219) (v_0 : GVal) : execC Try.prog Try.x219 Try.b219 [] (topC Try.prog Try.x219) (Try.a219 R219 ok219 v_0) (ES.init [.val (.agg ((GVal.cs v_0).map R.c))]) :=
  of_triv (rs := Try.x219.rs) (snap := Try.x219.snap) (c := Try.a219 R219 ok219 v_0) (by kernel_rfl)
theorem Try.g219 (R219 : GVal → Bool → Prop) (ok219 : Try.O219 R219) : ∀ j, chkAt Try.prog Try.x219 Try.b219 (Try.x219.path j) ((Try.c219 R219 ok219) j) (Try.x219.snap j).es := fun j => nomatch j
noncomputable def Try.n219 : Nat → {Q : GVal → Bool → Prop // Try.O219 Q}
  | 0 => ⟨fun _ _ => False, fun _ _ h => h.elim⟩
  | n + 1 => ⟨fun x y => Runs (Try.a219 (Try.n219 n).1 (Try.n219 n).2 x) (KOf (fun j => Ev (Try.c219 (Try.n219 n).1 (Try.n219 n).2) j y) y), fun x y h => sys_ok (cx := Try.x219) (body := Try.b219) Try.follow Try.func219 (by kernel_rfl) (by kernel_rfl) (by kernel_rfl) (by kernel_rfl) _ (Nat.le_of_ble_eq_true rfl) (by kernel_rfl) _ (Try.h219 (Try.n219 n).1 (Try.n219 n).2 x) (Try.g219 (Try.n219 n).1 (Try.n219 n).2) y h⟩
noncomputable def Try.m219 : Mir Try.prog 219 GVal Bool := Try.w219 (fun x y => ∃ n, (Try.n219 n).1 x y) (fun x y h => (Try.n219 h.choose).2 x y h.choose_spec)
/-! ### 195 workflow/value.within -/
noncomputable def Try.b195 : Code := Try.f195.body.getD .skip
noncomputable def Try.x195 : Cx Empty Bool where
  nt := 15
  rvs := [.tmp 2]
  mh := []
  res := fun y => [.one (.c (.bool y))]
  outs := fun y => []
  path := fun j => nomatch j
  sig := fun j => nomatch j
  snap := fun j => nomatch j
noncomputable def Try.a195 (R217 : GVal → Int → Prop) (ok217 : Try.O217 R217) (R218 : GVal → Int → Prop) (ok218 : Try.O218 R218) (R219 : GVal → Bool → Prop) (ok219 : Try.O219 R219) (v_0 : GVal) : Cert Try.prog Empty Bool :=
    .call Try.m217 v_0 fun r1 =>
    .ite 6 (decide (r1 ≤ 16))
    (.call Try.m218 v_0 fun r2 =>
    .ite 11 (decide (r2 ≤ 1000))
    (.call Try.m219 v_0 fun r3 =>
    .ret r3)
    (.ret false))
    (.ret false)
noncomputable def Try.c195 (R217 : GVal → Int → Prop) (ok217 : Try.O217 R217) (R218 : GVal → Int → Prop) (ok218 : Try.O218 R218) (R219 : GVal → Bool → Prop) (ok219 : Try.O219 R219) : Empty → Cert Try.prog Empty Bool := fun j => nomatch j
theorem Try.h195 (R217 : GVal → Int → Prop) (ok217 : Try.O217 R217) (R218 : GVal → Int → Prop) (ok218 : Try.O218 R218) (R219 : GVal → Bool → Prop) (ok219 : Try.O219 R219) (v_0 : GVal) : execC Try.prog Try.x195 Try.b195 [] (topC Try.prog Try.x195) (Try.a195 R217 ok217 R218 ok218 R219 ok219 v_0) (ES.init [.val (.agg ((GVal.cs v_0).map R.c))]) :=
  of_triv (rs := Try.x195.rs) (snap := Try.x195.snap) (c := Try.a195 R217 ok217 R218 ok218 R219 ok219 v_0) (by kernel_rfl)
theorem Try.g195 (R217 : GVal → Int → Prop) (ok217 : Try.O217 R217) (R218 : GVal → Int → Prop) (ok218 : Try.O218 R218) (R219 : GVal → Bool → Prop) (ok219 : Try.O219 R219) : ∀ j, chkAt Try.prog Try.x195 Try.b195 (Try.x195.path j) ((Try.c195 R217 ok217 R218 ok218 R219 ok219) j) (Try.x195.snap j).es := fun j => nomatch j
noncomputable def Try.m195 (R217 : GVal → Int → Prop) (ok217 : Try.O217 R217) (R218 : GVal → Int → Prop) (ok218 : Try.O218 R218) (R219 : GVal → Bool → Prop) (ok219 : Try.O219 R219) : Mir Try.prog 195 GVal Bool where
  fs := [.agg (List.replicate 5 none)]
  ga := fun x => [.val (.agg ((GVal.cs x).map R.c))]
  caps := fun x => []
  res := Try.x195.res
  outs := Try.x195.outs
  R := fun x y => Runs (Try.a195 R217 ok217 R218 ok218 R219 ok219 x) (KOf (fun j => Ev (Try.c195 R217 ok217 R218 ok218 R219 ok219) j y) y)
  ok := fun x y h => sys_ok (cx := Try.x195) (body := Try.b195) Try.follow Try.func195 (by kernel_rfl) (by kernel_rfl) (by kernel_rfl) (by kernel_rfl) _ (Nat.le_of_ble_eq_true rfl) (by kernel_rfl) _ (Try.h195 R217 ok217 R218 ok218 R219 ok219 x) (Try.g195 R217 ok217 R218 ok218 R219 ok219) y h
  flat := true
  hflat := fun _ _ => flatE rfl
abbrev Try.O196 (Q : (GVal × Bool) → Bool → Prop) : Prop := ∀ x y, Q x y → SpecG Try.prog 196 ([.val (.agg ((GVal.cs x.1).map R.c)), .val (.one (.c (.bool x.2)))] ++ ([] : List C).map fun c => .val (.one (.c c))) [.one (.c (.bool y))] []
noncomputable def Try.w196 (Q : (GVal × Bool) → Bool → Prop) (ok : Try.O196 Q) : Mir Try.prog 196 (GVal × Bool) Bool where
  fs := [.agg (List.replicate 5 none), .one none]
  ga := fun x => [.val (.agg ((GVal.cs x.1).map R.c)), .val (.one (.c (.bool x.2)))]
  caps := fun x => []
  res := fun y => [.one (.c (.bool y))]
  outs := fun y => []
  R := Q
  ok := ok
  flat := true
  hflat := fun _ _ => flatE rfl
/-! ### 222 workflow/value.formed$1 -/
noncomputable def Try.b222 : Code := Try.f222.body.getD .skip
noncomputable def Try.x222 : Cx Empty Bool where
  nt := 8
  rvs := [.tmp 3]
  mh := []
  res := fun y => [.one (.c (.bool y))]
  outs := fun y => []
  path := fun j => nomatch j
  sig := fun j => nomatch j
  snap := fun j => nomatch j
noncomputable def Try.a222 (R196 : (GVal × Bool) → Bool → Prop) (ok196 : Try.O196 R196) (x_0 : GVal) (cap0 : Bool) : Cert Try.prog Empty Bool :=
    .call (Try.w196 R196 ok196) (x_0, cap0) fun r1 =>
    .ret (!r1)
noncomputable def Try.c222 (R196 : (GVal × Bool) → Bool → Prop) (ok196 : Try.O196 R196) : Empty → Cert Try.prog Empty Bool := fun j => nomatch j
theorem Try.h222 (R196 : (GVal × Bool) → Bool → Prop) (ok196 : Try.O196 R196) (x_0 : GVal) (cap0 : Bool) : execC Try.prog Try.x222 Try.b222 [] (topC Try.prog Try.x222) (Try.a222 R196 ok196 x_0 cap0) (ES.init [.val (.agg ((GVal.cs x_0).map R.c)), .val (.one (.c (.ptr [(.bool cap0)])))]) :=
  of_triv (rs := Try.x222.rs) (snap := Try.x222.snap) (c := Try.a222 R196 ok196 x_0 cap0) (by kernel_rfl)
theorem Try.g222 (R196 : (GVal × Bool) → Bool → Prop) (ok196 : Try.O196 R196) : ∀ j, chkAt Try.prog Try.x222 Try.b222 (Try.x222.path j) ((Try.c222 R196 ok196) j) (Try.x222.snap j).es := fun j => nomatch j
noncomputable def Try.m222 (R196 : (GVal × Bool) → Bool → Prop) (ok196 : Try.O196 R196) : Mir Try.prog 222 (GVal × Bool) Bool where
  fs := [.agg (List.replicate 5 none)]
  ga := fun x => [.val (.agg ((GVal.cs x.1).map R.c))]
  caps := fun x => [(.ptr [(.bool x.2)])]
  res := Try.x222.res
  outs := Try.x222.outs
  R := fun x y => Runs (Try.a222 R196 ok196 x.1 x.2) (KOf (fun j => Ev (Try.c222 R196 ok196) j y) y)
  ok := fun x y h => sys_ok (cx := Try.x222) (body := Try.b222) Try.follow Try.func222 (by kernel_rfl) (by kernel_rfl) (by kernel_rfl) (by kernel_rfl) _ (Nat.le_of_ble_eq_true rfl) (by kernel_rfl) _ (Try.h222 R196 ok196 x.1 x.2) (Try.g222 R196 ok196) y h
  flat := true
  hflat := fun _ _ => flatE rfl
/-! ### 220 workflow/value.ascending -/
inductive Try.J220 where
  | s0 (l_t0 : List ByteArray) (i_t3 : Int)
noncomputable def Try.b220 : Code := Try.f220.body.getD .skip
noncomputable def Try.x220 : Cx Try.J220 Bool where
  nt := 20
  rvs := [.tmp 2]
  mh := []
  res := fun y => [.one (.c (.bool y))]
  outs := fun y => []
  path := fun
    | .s0 _ _ => [0, 1, 0, 1]
  sig := fun
    | .s0 _ _ => [0, 3]
  snap := fun
    | .s0 l_t0 i_t3 => ⟨[(0, .one (.c (.sl (E.str.L l_t0)))), (3, .one (.c (.int .i64 i_t3)))], []⟩
noncomputable def Try.a220 (l_0 : List ByteArray) : Cert Try.prog Try.J220 Bool :=
    .jump (.s0 l_0 1) []
noncomputable def Try.c220 : Try.J220 → Cert Try.prog Try.J220 Bool
  | .s0 l_t0 i_t3 =>
    .len E.str l_t0 <|
    .ite 7 (decide (i_t3 < (l_t0.length : Int)))
    (.elem E.str l_t0 (IntKind.i64.wrap (i_t3 - 1)) fun a1 =>
    .elem E.str l_t0 i_t3 fun a2 =>
    .ite 19 (!strLt a1 a2)
    (.ret false)
    (.jump (.s0 l_t0 (IntKind.i64.wrap (i_t3 + 1))) []))
    (.ret true)
theorem Try.h220 (l_0 : List ByteArray) : execC Try.prog Try.x220 Try.b220 [] (topC Try.prog Try.x220) (Try.a220 l_0) (ES.init [.val (.one (.c (.sl (E.str.L l_0))))]) :=
  of_triv (rs := Try.x220.rs) (snap := Try.x220.snap) (c := Try.a220 l_0) (by kernel_rfl)
theorem Try.g220 : ∀ j, chkAt Try.prog Try.x220 Try.b220 (Try.x220.path j) (Try.c220 j) (Try.x220.snap j).es
  | .s0 l_t0 i_t3 => of_triv (rs := Try.x220.rs) (snap := Try.x220.snap) (c := Try.c220 (.s0 l_t0 i_t3)) (by kernel_rfl)
noncomputable def Try.m220 : Mir Try.prog 220 (List ByteArray) Bool where
  fs := [.one none]
  ga := fun x => [.val (.one (.c (.sl (E.str.L x))))]
  caps := fun x => []
  res := Try.x220.res
  outs := Try.x220.outs
  R := fun x y => Runs (Try.a220 x) (KOf (fun j => Ev (Try.c220) j y) y)
  ok := fun x y h => sys_ok (cx := Try.x220) (body := Try.b220) Try.follow Try.func220 (by kernel_rfl) (by kernel_rfl) (by kernel_rfl) (by kernel_rfl) _ (Nat.le_of_ble_eq_true rfl) (by kernel_rfl) _ (Try.h220 x) (Try.g220) y h
  flat := true
  hflat := fun _ _ => flatE rfl
/-! ### 196 workflow/value.formed -/
inductive Try.J196 where
  | s0 (v_t2 : GVal) (futures_t3 : Bool)
noncomputable def Try.b196 : Code := Try.f196.body.getD .skip
noncomputable def Try.x196 : Cx Try.J196 Bool where
  nt := 142
  rvs := [.tmp 4]
  mh := []
  res := fun y => [.one (.c (.bool y))]
  outs := fun y => []
  path := fun
    | .s0 _ _ => [1, 1, 1, 1, 1, 1]
  sig := fun
    | .s0 _ _ => [2, 3]
  snap := fun
    | .s0 v_t2 futures_t3 => ⟨[(2, .one (.ptr 0 1 0)), (3, .one (.ptr 1 1 0))], [((0, 1), .box ((GVal.cs v_t2).map A.c)), ((1, 1), .box [(.c (.bool futures_t3))])]⟩
noncomputable def Try.a196 (R196 : (GVal × Bool) → Bool → Prop) (ok196 : Try.O196 R196) (v_0 : GVal) (futures_1 : Bool) : Cert Try.prog Try.J196 Bool :=
    .len E.GVal v_0.Items <|
    .len E.str v_0.Keys <|
    .ite 25 (v_0.Kind == 0)
    (.ite 29 (!(v_0.Num != 0))
    (.ite 33 (!(!strEq v_0.Text (⟨#[]⟩ : ByteArray)))
    (.ite 37 (!(decide (0 < (v_0.Items.length : Int))))
    (.ret (!(decide (0 < (v_0.Keys.length : Int)))))
    (.ret false))
    (.ret false))
    (.ret false))
    (.ite 41 (v_0.Kind == 1)
    (.ite 46 (v_0.Num == 0)
    (.ite 55 (!(!strEq v_0.Text (⟨#[]⟩ : ByteArray)))
    (.ite 59 (!(decide (0 < (v_0.Items.length : Int))))
    (.ret (!(decide (0 < (v_0.Keys.length : Int)))))
    (.ret false))
    (.ret false))
    (.ite 51 (v_0.Num == 1)
    (.ite 55 (!(!strEq v_0.Text (⟨#[]⟩ : ByteArray)))
    (.ite 59 (!(decide (0 < (v_0.Items.length : Int))))
    (.ret (!(decide (0 < (v_0.Keys.length : Int)))))
    (.ret false))
    (.ret false))
    (.ret false)))
    (.ite 63 (v_0.Kind == 2)
    (.ite 67 (!(!strEq v_0.Text (⟨#[]⟩ : ByteArray)))
    (.ite 71 (!(decide (0 < (v_0.Items.length : Int))))
    (.ret (!(decide (0 < (v_0.Keys.length : Int)))))
    (.ret false))
    (.ret false))
    (.ite 75 (v_0.Kind == 6)
    (.ite 78 futures_1
    (.ite 83 (decide (0 ≤ v_0.Num))
    (.ite 87 (!(!strEq v_0.Text (⟨#[]⟩ : ByteArray)))
    (.ite 91 (!(decide (0 < (v_0.Items.length : Int))))
    (.ret (!(decide (0 < (v_0.Keys.length : Int)))))
    (.ret false))
    (.ret false))
    (.ret false))
    (.ret false))
    (.ite 95 (v_0.Kind == 3)
    (.ite 99 (!(v_0.Num != 0))
    (.ite 103 (!(decide (0 < (v_0.Items.length : Int))))
    (.ret (!(decide (0 < (v_0.Keys.length : Int)))))
    (.ret false))
    (.ret false))
    (.ite 107 (v_0.Kind == 4)
    (.ite 110 (v_0.Num != 0)
    (.ret false)
    (.ite 113 (!strEq v_0.Text (⟨#[]⟩ : ByteArray))
    (.ret false)
    (.ite 115 (decide (0 < (v_0.Keys.length : Int)))
    (.ret false)
    (.jump (.s0 v_0 futures_1) [(2000, 1), (3000, 1)]))))
    (.ite 116 (v_0.Kind == 5)
    (.ite 119 (v_0.Num != 0)
    (.ret false)
    (.ite 122 (!strEq v_0.Text (⟨#[]⟩ : ByteArray))
    (.ret false)
    (.len E.str v_0.Keys <|
    .len E.GVal v_0.Items <|
    .ite 131 ((v_0.Keys.length : Int) != (v_0.Items.length : Int))
    (.ret false)
    (.call Try.m220 v_0.Keys fun r1 =>
    .ite 136 (!r1)
    (.ret false)
    (.jump (.s0 v_0 futures_1) [(2000, 1), (3000, 1)])))))
    (.ret false)))))))
noncomputable def Try.c196 (R196 : (GVal × Bool) → Bool → Prop) (ok196 : Try.O196 R196) : Try.J196 → Cert Try.prog Try.J196 Bool
  | .s0 v_t2 futures_t3 =>
    .call Try.m221 (v_t2.Items, (⟨222, [(.ptr [(.bool futures_t3)])], fun a b => (Try.m222 R196 ok196).R (a, futures_t3) b, fun a b h => (Try.m222 R196 ok196).ok (a, futures_t3) b h⟩ : Try.Clo175)) fun r2 =>
    .ret (!r2)
theorem Try.h196 (R196 : (GVal × Bool) → Bool → Prop) (ok196 : Try.O196 R196) (v_0 : GVal) (futures_1 : Bool) : execC Try.prog Try.x196 Try.b196 [] (topC Try.prog Try.x196) (Try.a196 R196 ok196 v_0 futures_1) (ES.init [.val (.agg ((GVal.cs v_0).map R.c)), .val (.one (.c (.bool futures_1)))]) :=
  of_triv (rs := Try.x196.rs) (snap := Try.x196.snap) (c := Try.a196 R196 ok196 v_0 futures_1) (by kernel_rfl)
theorem Try.g196 (R196 : (GVal × Bool) → Bool → Prop) (ok196 : Try.O196 R196) : ∀ j, chkAt Try.prog Try.x196 Try.b196 (Try.x196.path j) ((Try.c196 R196 ok196) j) (Try.x196.snap j).es
  | .s0 v_t2 futures_t3 => of_triv (rs := Try.x196.rs) (snap := Try.x196.snap) (c := Try.c196 R196 ok196 (.s0 v_t2 futures_t3)) (by kernel_rfl)
noncomputable def Try.n196 : Nat → {Q : (GVal × Bool) → Bool → Prop // Try.O196 Q}
  | 0 => ⟨fun _ _ => False, fun _ _ h => h.elim⟩
  | n + 1 => ⟨fun x y => Runs (Try.a196 (Try.n196 n).1 (Try.n196 n).2 x.1 x.2) (KOf (fun j => Ev (Try.c196 (Try.n196 n).1 (Try.n196 n).2) j y) y), fun x y h => sys_ok (cx := Try.x196) (body := Try.b196) Try.follow Try.func196 (by kernel_rfl) (by kernel_rfl) (by kernel_rfl) (by kernel_rfl) _ (Nat.le_of_ble_eq_true rfl) (by kernel_rfl) _ (Try.h196 (Try.n196 n).1 (Try.n196 n).2 x.1 x.2) (Try.g196 (Try.n196 n).1 (Try.n196 n).2) y h⟩
noncomputable def Try.m196 : Mir Try.prog 196 (GVal × Bool) Bool := Try.w196 (fun x y => ∃ n, (Try.n196 n).1 x y) (fun x y h => (Try.n196 h.choose).2 x y h.choose_spec)
/-! ### 140 workflow/value.Right -/
noncomputable def Try.b140 : Code := Try.f140.body.getD .skip
noncomputable def Try.x140 : Cx Empty Bool where
  nt := 9
  rvs := [.tmp 2]
  mh := []
  res := fun y => [.one (.c (.bool y))]
  outs := fun y => []
  path := fun j => nomatch j
  sig := fun j => nomatch j
  snap := fun j => nomatch j
noncomputable def Try.a140 (R217 : GVal → Int → Prop) (ok217 : Try.O217 R217) (R218 : GVal → Int → Prop) (ok218 : Try.O218 R218) (R219 : GVal → Bool → Prop) (ok219 : Try.O219 R219) (R196 : (GVal × Bool) → Bool → Prop) (ok196 : Try.O196 R196) (v_0 : GVal) : Cert Try.prog Empty Bool :=
    .call (Try.m195 Try.m217.R Try.m217.ok Try.m218.R Try.m218.ok Try.m219.R Try.m219.ok) v_0 fun r1 =>
    .ite 5 r1
    (.call Try.m196 (v_0, false) fun r2 =>
    .ret r2)
    (.ret false)
noncomputable def Try.c140 (R217 : GVal → Int → Prop) (ok217 : Try.O217 R217) (R218 : GVal → Int → Prop) (ok218 : Try.O218 R218) (R219 : GVal → Bool → Prop) (ok219 : Try.O219 R219) (R196 : (GVal × Bool) → Bool → Prop) (ok196 : Try.O196 R196) : Empty → Cert Try.prog Empty Bool := fun j => nomatch j
theorem Try.h140 (R217 : GVal → Int → Prop) (ok217 : Try.O217 R217) (R218 : GVal → Int → Prop) (ok218 : Try.O218 R218) (R219 : GVal → Bool → Prop) (ok219 : Try.O219 R219) (R196 : (GVal × Bool) → Bool → Prop) (ok196 : Try.O196 R196) (v_0 : GVal) : execC Try.prog Try.x140 Try.b140 [] (topC Try.prog Try.x140) (Try.a140 R217 ok217 R218 ok218 R219 ok219 R196 ok196 v_0) (ES.init [.val (.agg ((GVal.cs v_0).map R.c))]) :=
  of_triv (rs := Try.x140.rs) (snap := Try.x140.snap) (c := Try.a140 R217 ok217 R218 ok218 R219 ok219 R196 ok196 v_0) (by kernel_rfl)
theorem Try.g140 (R217 : GVal → Int → Prop) (ok217 : Try.O217 R217) (R218 : GVal → Int → Prop) (ok218 : Try.O218 R218) (R219 : GVal → Bool → Prop) (ok219 : Try.O219 R219) (R196 : (GVal × Bool) → Bool → Prop) (ok196 : Try.O196 R196) : ∀ j, chkAt Try.prog Try.x140 Try.b140 (Try.x140.path j) ((Try.c140 R217 ok217 R218 ok218 R219 ok219 R196 ok196) j) (Try.x140.snap j).es := fun j => nomatch j
noncomputable def Try.m140 (R217 : GVal → Int → Prop) (ok217 : Try.O217 R217) (R218 : GVal → Int → Prop) (ok218 : Try.O218 R218) (R219 : GVal → Bool → Prop) (ok219 : Try.O219 R219) (R196 : (GVal × Bool) → Bool → Prop) (ok196 : Try.O196 R196) : Mir Try.prog 140 GVal Bool where
  fs := [.agg (List.replicate 5 none)]
  ga := fun x => [.val (.agg ((GVal.cs x).map R.c))]
  caps := fun x => []
  res := Try.x140.res
  outs := Try.x140.outs
  R := fun x y => Runs (Try.a140 R217 ok217 R218 ok218 R219 ok219 R196 ok196 x) (KOf (fun j => Ev (Try.c140 R217 ok217 R218 ok218 R219 ok219 R196 ok196) j y) y)
  ok := fun x y h => sys_ok (cx := Try.x140) (body := Try.b140) Try.follow Try.func140 (by kernel_rfl) (by kernel_rfl) (by kernel_rfl) (by kernel_rfl) _ (Nat.le_of_ble_eq_true rfl) (by kernel_rfl) _ (Try.h140 R217 ok217 R218 ok218 R219 ok219 R196 ok196 x) (Try.g140 R217 ok217 R218 ok218 R219 ok219 R196 ok196) y h
  flat := true
  hflat := fun _ _ => flatE rfl
abbrev Try.O200 (Q : GVal → Bool → Prop) : Prop := ∀ x y, Q x y → SpecG Try.prog 200 ([.val (.agg ((GVal.cs x).map R.c))] ++ ([] : List C).map fun c => .val (.one (.c c))) [.one (.c (.bool y))] []
noncomputable def Try.w200 (Q : GVal → Bool → Prop) (ok : Try.O200 Q) : Mir Try.prog 200 GVal Bool where
  fs := [.agg (List.replicate 5 none)]
  ga := fun x => [.val (.agg ((GVal.cs x).map R.c))]
  caps := fun x => []
  res := fun y => [.one (.c (.bool y))]
  outs := fun y => []
  R := Q
  ok := ok
  flat := true
  hflat := fun _ _ => flatE rfl
/-! ### 224 workflow/workflowref02.Rising -/
inductive Try.J224 where
  | s0 (keys_t0 : List ByteArray) (i_t3 : Int)
noncomputable def Try.b224 : Code := Try.f224.body.getD .skip
noncomputable def Try.x224 : Cx Try.J224 Bool where
  nt := 20
  rvs := [.tmp 2]
  mh := []
  res := fun y => [.one (.c (.bool y))]
  outs := fun y => []
  path := fun
    | .s0 _ _ => [0, 1, 0, 1]
  sig := fun
    | .s0 _ _ => [0, 3]
  snap := fun
    | .s0 keys_t0 i_t3 => ⟨[(0, .one (.c (.sl (E.str.L keys_t0)))), (3, .one (.c (.int .i64 i_t3)))], []⟩
noncomputable def Try.a224 (keys_0 : List ByteArray) : Cert Try.prog Try.J224 Bool :=
    .jump (.s0 keys_0 1) []
noncomputable def Try.c224 : Try.J224 → Cert Try.prog Try.J224 Bool
  | .s0 keys_t0 i_t3 =>
    .len E.str keys_t0 <|
    .ite 7 (decide (i_t3 < (keys_t0.length : Int)))
    (.elem E.str keys_t0 (IntKind.i64.wrap (i_t3 - 1)) fun a1 =>
    .elem E.str keys_t0 i_t3 fun a2 =>
    .ite 19 (!strLt a1 a2)
    (.ret false)
    (.jump (.s0 keys_t0 (IntKind.i64.wrap (i_t3 + 1))) []))
    (.ret true)
theorem Try.h224 (keys_0 : List ByteArray) : execC Try.prog Try.x224 Try.b224 [] (topC Try.prog Try.x224) (Try.a224 keys_0) (ES.init [.val (.one (.c (.sl (E.str.L keys_0))))]) :=
  of_triv (rs := Try.x224.rs) (snap := Try.x224.snap) (c := Try.a224 keys_0) (by kernel_rfl)
theorem Try.g224 : ∀ j, chkAt Try.prog Try.x224 Try.b224 (Try.x224.path j) (Try.c224 j) (Try.x224.snap j).es
  | .s0 keys_t0 i_t3 => of_triv (rs := Try.x224.rs) (snap := Try.x224.snap) (c := Try.c224 (.s0 keys_t0 i_t3)) (by kernel_rfl)
noncomputable def Try.m224 : Mir Try.prog 224 (List ByteArray) Bool where
  fs := [.one none]
  ga := fun x => [.val (.one (.c (.sl (E.str.L x))))]
  caps := fun x => []
  res := Try.x224.res
  outs := Try.x224.outs
  R := fun x y => Runs (Try.a224 x) (KOf (fun j => Ev (Try.c224) j y) y)
  ok := fun x y h => sys_ok (cx := Try.x224) (body := Try.b224) Try.follow Try.func224 (by kernel_rfl) (by kernel_rfl) (by kernel_rfl) (by kernel_rfl) _ (Nat.le_of_ble_eq_true rfl) (by kernel_rfl) _ (Try.h224 x) (Try.g224) y h
  flat := true
  hflat := fun _ _ => flatE rfl
/-! ### 200 workflow/workflowref02.WellFormed -/
inductive Try.J200 where
  | s0 (v_t1 : GVal) (i_t3 : Int)
noncomputable def Try.b200 : Code := Try.f200.body.getD .skip
noncomputable def Try.x200 : Cx Try.J200 Bool where
  nt := 165
  rvs := [.tmp 2]
  mh := []
  res := fun y => [.one (.c (.bool y))]
  outs := fun y => []
  path := fun
    | .s0 _ _ => [0, 1, 0, 1]
  sig := fun
    | .s0 _ _ => [1, 3]
  snap := fun
    | .s0 v_t1 i_t3 => ⟨[(1, .one (.ptr 0 1 0)), (3, .one (.c (.int .i64 i_t3)))], [((0, 1), .box ((GVal.cs v_t1).map A.c))]⟩
noncomputable def Try.a200 (R200 : GVal → Bool → Prop) (ok200 : Try.O200 R200) (v_0 : GVal) : Cert Try.prog Try.J200 Bool :=
    .jump (.s0 v_0 0) [(1000, 1)]
noncomputable def Try.c200 (R200 : GVal → Bool → Prop) (ok200 : Try.O200 R200) : Try.J200 → Cert Try.prog Try.J200 Bool
  | .s0 v_t1 i_t3 =>
    .len E.GVal v_t1.Items <|
    .ite 8 (decide (i_t3 < (v_t1.Items.length : Int)))
    (.elem E.GVal v_t1.Items i_t3 fun a1 =>
    .call (Try.w200 R200 ok200) a1 fun r2 =>
    .ite 17 (!r2)
    (.ret false)
    (.jump (.s0 v_t1 (IntKind.i64.wrap (i_t3 + 1))) [(0, 1)]))
    (.ite 20 (v_t1.Kind == 0)
    (.ite 25 (v_t1.Num == 0)
    (.ite 30 (strEq v_t1.Text (⟨#[]⟩ : ByteArray))
    (.len E.GVal v_t1.Items <|
    .ite 36 ((v_t1.Items.length : Int) == 0)
    (.len E.str v_t1.Keys <|
    .ret ((v_t1.Keys.length : Int) == 0))
    (.ret false))
    (.ret false))
    (.ret false))
    (.ite 42 (v_t1.Kind == 1)
    (.ite 47 (v_t1.Num == 0)
    (.ite 57 (strEq v_t1.Text (⟨#[]⟩ : ByteArray))
    (.len E.GVal v_t1.Items <|
    .ite 63 ((v_t1.Items.length : Int) == 0)
    (.len E.str v_t1.Keys <|
    .ret ((v_t1.Keys.length : Int) == 0))
    (.ret false))
    (.ret false))
    (.ite 52 (v_t1.Num == 1)
    (.ite 57 (strEq v_t1.Text (⟨#[]⟩ : ByteArray))
    (.len E.GVal v_t1.Items <|
    .ite 63 ((v_t1.Items.length : Int) == 0)
    (.len E.str v_t1.Keys <|
    .ret ((v_t1.Keys.length : Int) == 0))
    (.ret false))
    (.ret false))
    (.ret false)))
    (.ite 69 (v_t1.Kind == 2)
    (.ite 74 (strEq v_t1.Text (⟨#[]⟩ : ByteArray))
    (.len E.GVal v_t1.Items <|
    .ite 80 ((v_t1.Items.length : Int) == 0)
    (.len E.str v_t1.Keys <|
    .ret ((v_t1.Keys.length : Int) == 0))
    (.ret false))
    (.ret false))
    (.ite 86 (v_t1.Kind == 3)
    (.ite 91 (v_t1.Num == 0)
    (.len E.GVal v_t1.Items <|
    .ite 97 ((v_t1.Items.length : Int) == 0)
    (.len E.str v_t1.Keys <|
    .ret ((v_t1.Keys.length : Int) == 0))
    (.ret false))
    (.ret false))
    (.ite 103 (v_t1.Kind == 4)
    (.ite 108 (v_t1.Num == 0)
    (.ite 113 (strEq v_t1.Text (⟨#[]⟩ : ByteArray))
    (.len E.str v_t1.Keys <|
    .ret ((v_t1.Keys.length : Int) == 0))
    (.ret false))
    (.ret false))
    (.ite 119 (v_t1.Kind == 5)
    (.ite 124 (v_t1.Num == 0)
    (.ite 129 (strEq v_t1.Text (⟨#[]⟩ : ByteArray))
    (.len E.str v_t1.Keys <|
    .len E.GVal v_t1.Items <|
    .ite 138 ((v_t1.Keys.length : Int) == (v_t1.Items.length : Int))
    (.call Try.m224 v_t1.Keys fun r3 =>
    .ret r3)
    (.ret false))
    (.ret false))
    (.ret false))
    (.ite 143 (v_t1.Kind == 6)
    (.ite 148 (decide (0 ≤ v_t1.Num))
    (.ite 153 (strEq v_t1.Text (⟨#[]⟩ : ByteArray))
    (.len E.GVal v_t1.Items <|
    .ite 159 ((v_t1.Items.length : Int) == 0)
    (.len E.str v_t1.Keys <|
    .ret ((v_t1.Keys.length : Int) == 0))
    (.ret false))
    (.ret false))
    (.ret false))
    (.ret false))))))))
theorem Try.h200 (R200 : GVal → Bool → Prop) (ok200 : Try.O200 R200) (v_0 : GVal) : execC Try.prog Try.x200 Try.b200 [] (topC Try.prog Try.x200) (Try.a200 R200 ok200 v_0) (ES.init [.val (.agg ((GVal.cs v_0).map R.c))]) :=
  of_triv (rs := Try.x200.rs) (snap := Try.x200.snap) (c := Try.a200 R200 ok200 v_0) (by kernel_rfl)
theorem Try.g200 (R200 : GVal → Bool → Prop) (ok200 : Try.O200 R200) : ∀ j, chkAt Try.prog Try.x200 Try.b200 (Try.x200.path j) ((Try.c200 R200 ok200) j) (Try.x200.snap j).es
  | .s0 v_t1 i_t3 => of_triv (rs := Try.x200.rs) (snap := Try.x200.snap) (c := Try.c200 R200 ok200 (.s0 v_t1 i_t3)) (by kernel_rfl)
noncomputable def Try.n200 : Nat → {Q : GVal → Bool → Prop // Try.O200 Q}
  | 0 => ⟨fun _ _ => False, fun _ _ h => h.elim⟩
  | n + 1 => ⟨fun x y => Runs (Try.a200 (Try.n200 n).1 (Try.n200 n).2 x) (KOf (fun j => Ev (Try.c200 (Try.n200 n).1 (Try.n200 n).2) j y) y), fun x y h => sys_ok (cx := Try.x200) (body := Try.b200) Try.follow Try.func200 (by kernel_rfl) (by kernel_rfl) (by kernel_rfl) (by kernel_rfl) _ (Nat.le_of_ble_eq_true rfl) (by kernel_rfl) _ (Try.h200 (Try.n200 n).1 (Try.n200 n).2 x) (Try.g200 (Try.n200 n).1 (Try.n200 n).2) y h⟩
noncomputable def Try.m200 : Mir Try.prog 200 GVal Bool := Try.w200 (fun x y => ∃ n, (Try.n200 n).1 x y) (fun x y h => (Try.n200 h.choose).2 x y h.choose_spec)
abbrev Try.O225 (Q : GVal → Bool → Prop) : Prop := ∀ x y, Q x y → SpecG Try.prog 225 ([.val (.agg ((GVal.cs x).map R.c))] ++ ([] : List C).map fun c => .val (.one (.c c))) [.one (.c (.bool y))] []
noncomputable def Try.w225 (Q : GVal → Bool → Prop) (ok : Try.O225 Q) : Mir Try.prog 225 GVal Bool where
  fs := [.agg (List.replicate 5 none)]
  ga := fun x => [.val (.agg ((GVal.cs x).map R.c))]
  caps := fun x => []
  res := fun y => [.one (.c (.bool y))]
  outs := fun y => []
  R := Q
  ok := ok
  flat := true
  hflat := fun _ _ => flatE rfl
/-! ### 225 workflow/workflowref02.Short -/
inductive Try.J225 where
  | s0 (v_t1 : GVal) (i_t3 : Int)
  | s1 (v_t1 : GVal) (i_t4 : Int)
noncomputable def Try.b225 : Code := Try.f225.body.getD .skip
noncomputable def Try.x225 : Cx Try.J225 Bool where
  nt := 37
  rvs := [.tmp 2]
  mh := []
  res := fun y => [.one (.c (.bool y))]
  outs := fun y => []
  path := fun
    | .s0 _ _ => [0, 1, 0, 1, 1]
    | .s1 _ _ => [0, 1, 0, 1, 1, 1]
  sig := fun
    | .s0 _ _ => [1, 3]
    | .s1 _ _ => [1, 4]
  snap := fun
    | .s0 v_t1 i_t3 => ⟨[(1, .one (.ptr 0 1 0)), (3, .one (.c (.int .i64 i_t3)))], [((0, 1), .box ((GVal.cs v_t1).map A.c))]⟩
    | .s1 v_t1 i_t4 => ⟨[(1, .one (.ptr 0 1 0)), (4, .one (.c (.int .i64 i_t4)))], [((0, 1), .box ((GVal.cs v_t1).map A.c))]⟩
noncomputable def Try.a225 (R225 : GVal → Bool → Prop) (ok225 : Try.O225 R225) (v_0 : GVal) : Cert Try.prog Try.J225 Bool :=
    .ite 8 (decide (4096 < (v_0.Text.size : Int)))
    (.ret false)
    (.jump (.s0 v_0 0) [(1000, 1)])
noncomputable def Try.c225 (R225 : GVal → Bool → Prop) (ok225 : Try.O225 R225) : Try.J225 → Cert Try.prog Try.J225 Bool
  | .s0 v_t1 i_t3 =>
    .len E.str v_t1.Keys <|
    .ite 13 (decide (i_t3 < (v_t1.Keys.length : Int)))
    (.elem E.str v_t1.Keys i_t3 fun a1 =>
    .ite 22 (decide (4096 < (a1.size : Int)))
    (.ret false)
    (.jump (.s0 v_t1 (IntKind.i64.wrap (i_t3 + 1))) [(0, 1)]))
    (.jump (.s1 v_t1 0) [(0, 1)])
  | .s1 v_t1 i_t4 =>
    .len E.GVal v_t1.Items <|
    .ite 27 (decide (i_t4 < (v_t1.Items.length : Int)))
    (.elem E.GVal v_t1.Items i_t4 fun a2 =>
    .call (Try.w225 R225 ok225) a2 fun r3 =>
    .ite 36 (!r3)
    (.ret false)
    (.jump (.s1 v_t1 (IntKind.i64.wrap (i_t4 + 1))) [(0, 1)]))
    (.ret true)
theorem Try.h225 (R225 : GVal → Bool → Prop) (ok225 : Try.O225 R225) (v_0 : GVal) : execC Try.prog Try.x225 Try.b225 [] (topC Try.prog Try.x225) (Try.a225 R225 ok225 v_0) (ES.init [.val (.agg ((GVal.cs v_0).map R.c))]) :=
  of_triv (rs := Try.x225.rs) (snap := Try.x225.snap) (c := Try.a225 R225 ok225 v_0) (by kernel_rfl)
theorem Try.g225 (R225 : GVal → Bool → Prop) (ok225 : Try.O225 R225) : ∀ j, chkAt Try.prog Try.x225 Try.b225 (Try.x225.path j) ((Try.c225 R225 ok225) j) (Try.x225.snap j).es
  | .s0 v_t1 i_t3 => of_triv (rs := Try.x225.rs) (snap := Try.x225.snap) (c := Try.c225 R225 ok225 (.s0 v_t1 i_t3)) (by kernel_rfl)
  | .s1 v_t1 i_t4 => of_triv (rs := Try.x225.rs) (snap := Try.x225.snap) (c := Try.c225 R225 ok225 (.s1 v_t1 i_t4)) (by kernel_rfl)
noncomputable def Try.n225 : Nat → {Q : GVal → Bool → Prop // Try.O225 Q}
  | 0 => ⟨fun _ _ => False, fun _ _ h => h.elim⟩
  | n + 1 => ⟨fun x y => Runs (Try.a225 (Try.n225 n).1 (Try.n225 n).2 x) (KOf (fun j => Ev (Try.c225 (Try.n225 n).1 (Try.n225 n).2) j y) y), fun x y h => sys_ok (cx := Try.x225) (body := Try.b225) Try.follow Try.func225 (by kernel_rfl) (by kernel_rfl) (by kernel_rfl) (by kernel_rfl) _ (Nat.le_of_ble_eq_true rfl) (by kernel_rfl) _ (Try.h225 (Try.n225 n).1 (Try.n225 n).2 x) (Try.g225 (Try.n225 n).1 (Try.n225 n).2) y h⟩
noncomputable def Try.m225 : Mir Try.prog 225 GVal Bool := Try.w225 (fun x y => ∃ n, (Try.n225 n).1 x y) (fun x y h => (Try.n225 h.choose).2 x y h.choose_spec)
abbrev Try.O226 (Q : GVal → Int → Prop) : Prop := ∀ x y, Q x y → SpecG Try.prog 226 ([.val (.agg ((GVal.cs x).map R.c))] ++ ([] : List C).map fun c => .val (.one (.c c))) [.one (.c (.int .i64 y))] []
noncomputable def Try.w226 (Q : GVal → Int → Prop) (ok : Try.O226 Q) : Mir Try.prog 226 GVal Int where
  fs := [.agg (List.replicate 5 none)]
  ga := fun x => [.val (.agg ((GVal.cs x).map R.c))]
  caps := fun x => []
  res := fun y => [.one (.c (.int .i64 y))]
  outs := fun y => []
  R := Q
  ok := ok
  flat := true
  hflat := fun _ _ => flatE rfl
/-! ### 226 workflow/workflowref02.Depth -/
inductive Try.J226 where
  | s0 (v_t1 : GVal) (most_t3 : Int) (i_t4 : Int)
noncomputable def Try.b226 : Code := Try.f226.body.getD .skip
noncomputable def Try.x226 : Cx Try.J226 Int where
  nt := 25
  rvs := [.tmp 2]
  mh := []
  res := fun y => [.one (.c (.int .i64 y))]
  outs := fun y => []
  path := fun
    | .s0 _ _ _ => [0, 1, 0, 1, 1]
  sig := fun
    | .s0 _ _ _ => [1, 3, 4]
  snap := fun
    | .s0 v_t1 most_t3 i_t4 => ⟨[(1, .one (.ptr 0 1 0)), (3, .one (.c (.int .i64 most_t3))), (4, .one (.c (.int .i64 i_t4)))], [((0, 1), .box ((GVal.cs v_t1).map A.c))]⟩
noncomputable def Try.a226 (R226 : GVal → Int → Prop) (ok226 : Try.O226 R226) (v_0 : GVal) : Cert Try.prog Try.J226 Int :=
    .jump (.s0 v_0 0 0) [(1000, 1)]
noncomputable def Try.c226 (R226 : GVal → Int → Prop) (ok226 : Try.O226 R226) : Try.J226 → Cert Try.prog Try.J226 Int
  | .s0 v_t1 most_t3 i_t4 =>
    .len E.GVal v_t1.Items <|
    .ite 10 (decide (i_t4 < (v_t1.Items.length : Int)))
    (.elem E.GVal v_t1.Items i_t4 fun a1 =>
    .call (Try.w226 R226 ok226) a1 fun r2 =>
    .ite 21 (decide (most_t3 < r2))
    (.jump (.s0 v_t1 r2 (IntKind.i64.wrap (i_t4 + 1))) [(0, 1)])
    (.jump (.s0 v_t1 most_t3 (IntKind.i64.wrap (i_t4 + 1))) [(0, 1)]))
    (.ret (IntKind.i64.wrap (most_t3 + 1)))
theorem Try.h226 (R226 : GVal → Int → Prop) (ok226 : Try.O226 R226) (v_0 : GVal) : execC Try.prog Try.x226 Try.b226 [] (topC Try.prog Try.x226) (Try.a226 R226 ok226 v_0) (ES.init [.val (.agg ((GVal.cs v_0).map R.c))]) :=
  of_triv (rs := Try.x226.rs) (snap := Try.x226.snap) (c := Try.a226 R226 ok226 v_0) (by kernel_rfl)
theorem Try.g226 (R226 : GVal → Int → Prop) (ok226 : Try.O226 R226) : ∀ j, chkAt Try.prog Try.x226 Try.b226 (Try.x226.path j) ((Try.c226 R226 ok226) j) (Try.x226.snap j).es
  | .s0 v_t1 most_t3 i_t4 => of_triv (rs := Try.x226.rs) (snap := Try.x226.snap) (c := Try.c226 R226 ok226 (.s0 v_t1 most_t3 i_t4)) (by kernel_rfl)
noncomputable def Try.n226 : Nat → {Q : GVal → Int → Prop // Try.O226 Q}
  | 0 => ⟨fun _ _ => False, fun _ _ h => h.elim⟩
  | n + 1 => ⟨fun x y => Runs (Try.a226 (Try.n226 n).1 (Try.n226 n).2 x) (KOf (fun j => Ev (Try.c226 (Try.n226 n).1 (Try.n226 n).2) j y) y), fun x y h => sys_ok (cx := Try.x226) (body := Try.b226) Try.follow Try.func226 (by kernel_rfl) (by kernel_rfl) (by kernel_rfl) (by kernel_rfl) _ (Nat.le_of_ble_eq_true rfl) (by kernel_rfl) _ (Try.h226 (Try.n226 n).1 (Try.n226 n).2 x) (Try.g226 (Try.n226 n).1 (Try.n226 n).2) y h⟩
noncomputable def Try.m226 : Mir Try.prog 226 GVal Int := Try.w226 (fun x y => ∃ n, (Try.n226 n).1 x y) (fun x y h => (Try.n226 h.choose).2 x y h.choose_spec)
/-! ### 201 workflow/workflowref02.Within -/
noncomputable def Try.b201 : Code := Try.f201.body.getD .skip
noncomputable def Try.x201 : Cx Empty Bool where
  nt := 15
  rvs := [.tmp 2]
  mh := []
  res := fun y => [.one (.c (.bool y))]
  outs := fun y => []
  path := fun j => nomatch j
  sig := fun j => nomatch j
  snap := fun j => nomatch j
noncomputable def Try.a201 (R225 : GVal → Bool → Prop) (ok225 : Try.O225 R225) (R226 : GVal → Int → Prop) (ok226 : Try.O226 R226) (v_0 : GVal) : Cert Try.prog Empty Bool :=
    .call Try.m225 v_0 fun r1 =>
    .ite 5 r1
    (.call Try.m226 v_0 fun r2 =>
    .ite 10 (decide (r2 ≤ 16))
    (.call Try.m70 v_0 fun r3 =>
    .ret (decide (r3 ≤ 1000)))
    (.ret false))
    (.ret false)
noncomputable def Try.c201 (R225 : GVal → Bool → Prop) (ok225 : Try.O225 R225) (R226 : GVal → Int → Prop) (ok226 : Try.O226 R226) : Empty → Cert Try.prog Empty Bool := fun j => nomatch j
theorem Try.h201 (R225 : GVal → Bool → Prop) (ok225 : Try.O225 R225) (R226 : GVal → Int → Prop) (ok226 : Try.O226 R226) (v_0 : GVal) : execC Try.prog Try.x201 Try.b201 [] (topC Try.prog Try.x201) (Try.a201 R225 ok225 R226 ok226 v_0) (ES.init [.val (.agg ((GVal.cs v_0).map R.c))]) :=
  of_triv (rs := Try.x201.rs) (snap := Try.x201.snap) (c := Try.a201 R225 ok225 R226 ok226 v_0) (by kernel_rfl)
theorem Try.g201 (R225 : GVal → Bool → Prop) (ok225 : Try.O225 R225) (R226 : GVal → Int → Prop) (ok226 : Try.O226 R226) : ∀ j, chkAt Try.prog Try.x201 Try.b201 (Try.x201.path j) ((Try.c201 R225 ok225 R226 ok226) j) (Try.x201.snap j).es := fun j => nomatch j
noncomputable def Try.m201 (R225 : GVal → Bool → Prop) (ok225 : Try.O225 R225) (R226 : GVal → Int → Prop) (ok226 : Try.O226 R226) : Mir Try.prog 201 GVal Bool where
  fs := [.agg (List.replicate 5 none)]
  ga := fun x => [.val (.agg ((GVal.cs x).map R.c))]
  caps := fun x => []
  res := Try.x201.res
  outs := Try.x201.outs
  R := fun x y => Runs (Try.a201 R225 ok225 R226 ok226 x) (KOf (fun j => Ev (Try.c201 R225 ok225 R226 ok226) j y) y)
  ok := fun x y h => sys_ok (cx := Try.x201) (body := Try.b201) Try.follow Try.func201 (by kernel_rfl) (by kernel_rfl) (by kernel_rfl) (by kernel_rfl) _ (Nat.le_of_ble_eq_true rfl) (by kernel_rfl) _ (Try.h201 R225 ok225 R226 ok226 x) (Try.g201 R225 ok225 R226 ok226) y h
  flat := true
  hflat := fun _ _ => flatE rfl
abbrev Try.O202 (Q : GVal → Bool → Prop) : Prop := ∀ x y, Q x y → SpecG Try.prog 202 ([.val (.agg ((GVal.cs x).map R.c))] ++ ([] : List C).map fun c => .val (.one (.c c))) [.one (.c (.bool y))] []
noncomputable def Try.w202 (Q : GVal → Bool → Prop) (ok : Try.O202 Q) : Mir Try.prog 202 GVal Bool where
  fs := [.agg (List.replicate 5 none)]
  ga := fun x => [.val (.agg ((GVal.cs x).map R.c))]
  caps := fun x => []
  res := fun y => [.one (.c (.bool y))]
  outs := fun y => []
  R := Q
  ok := ok
  flat := true
  hflat := fun _ _ => flatE rfl
/-! ### 202 workflow/workflowref02.Future -/
inductive Try.J202 where
  | s0 (v_t1 : GVal) (i_t3 : Int)
noncomputable def Try.b202 : Code := Try.f202.body.getD .skip
noncomputable def Try.x202 : Cx Try.J202 Bool where
  nt := 20
  rvs := [.tmp 2]
  mh := []
  res := fun y => [.one (.c (.bool y))]
  outs := fun y => []
  path := fun
    | .s0 _ _ => [0, 1, 0, 1]
  sig := fun
    | .s0 _ _ => [1, 3]
  snap := fun
    | .s0 v_t1 i_t3 => ⟨[(1, .one (.ptr 0 1 0)), (3, .one (.c (.int .i64 i_t3)))], [((0, 1), .box ((GVal.cs v_t1).map A.c))]⟩
noncomputable def Try.a202 (R202 : GVal → Bool → Prop) (ok202 : Try.O202 R202) (v_0 : GVal) : Cert Try.prog Try.J202 Bool :=
    .jump (.s0 v_0 0) [(1000, 1)]
noncomputable def Try.c202 (R202 : GVal → Bool → Prop) (ok202 : Try.O202 R202) : Try.J202 → Cert Try.prog Try.J202 Bool
  | .s0 v_t1 i_t3 =>
    .len E.GVal v_t1.Items <|
    .ite 8 (decide (i_t3 < (v_t1.Items.length : Int)))
    (.elem E.GVal v_t1.Items i_t3 fun a1 =>
    .call (Try.w202 R202 ok202) a1 fun r2 =>
    .ite 16 r2
    (.ret true)
    (.jump (.s0 v_t1 (IntKind.i64.wrap (i_t3 + 1))) [(0, 1)]))
    (.ret (v_t1.Kind == 6))
theorem Try.h202 (R202 : GVal → Bool → Prop) (ok202 : Try.O202 R202) (v_0 : GVal) : execC Try.prog Try.x202 Try.b202 [] (topC Try.prog Try.x202) (Try.a202 R202 ok202 v_0) (ES.init [.val (.agg ((GVal.cs v_0).map R.c))]) :=
  of_triv (rs := Try.x202.rs) (snap := Try.x202.snap) (c := Try.a202 R202 ok202 v_0) (by kernel_rfl)
theorem Try.g202 (R202 : GVal → Bool → Prop) (ok202 : Try.O202 R202) : ∀ j, chkAt Try.prog Try.x202 Try.b202 (Try.x202.path j) ((Try.c202 R202 ok202) j) (Try.x202.snap j).es
  | .s0 v_t1 i_t3 => of_triv (rs := Try.x202.rs) (snap := Try.x202.snap) (c := Try.c202 R202 ok202 (.s0 v_t1 i_t3)) (by kernel_rfl)
noncomputable def Try.n202 : Nat → {Q : GVal → Bool → Prop // Try.O202 Q}
  | 0 => ⟨fun _ _ => False, fun _ _ h => h.elim⟩
  | n + 1 => ⟨fun x y => Runs (Try.a202 (Try.n202 n).1 (Try.n202 n).2 x) (KOf (fun j => Ev (Try.c202 (Try.n202 n).1 (Try.n202 n).2) j y) y), fun x y h => sys_ok (cx := Try.x202) (body := Try.b202) Try.follow Try.func202 (by kernel_rfl) (by kernel_rfl) (by kernel_rfl) (by kernel_rfl) _ (Nat.le_of_ble_eq_true rfl) (by kernel_rfl) _ (Try.h202 (Try.n202 n).1 (Try.n202 n).2 x) (Try.g202 (Try.n202 n).1 (Try.n202 n).2) y h⟩
noncomputable def Try.m202 : Mir Try.prog 202 GVal Bool := Try.w202 (fun x y => ∃ n, (Try.n202 n).1 x y) (fun x y h => (Try.n202 h.choose).2 x y h.choose_spec)
/-! ### 148 workflow/workflowref02.Right -/
noncomputable def Try.b148 : Code := Try.f148.body.getD .skip
noncomputable def Try.x148 : Cx Empty Bool where
  nt := 14
  rvs := [.tmp 2]
  mh := []
  res := fun y => [.one (.c (.bool y))]
  outs := fun y => []
  path := fun j => nomatch j
  sig := fun j => nomatch j
  snap := fun j => nomatch j
noncomputable def Try.a148 (R200 : GVal → Bool → Prop) (ok200 : Try.O200 R200) (R225 : GVal → Bool → Prop) (ok225 : Try.O225 R225) (R226 : GVal → Int → Prop) (ok226 : Try.O226 R226) (R202 : GVal → Bool → Prop) (ok202 : Try.O202 R202) (v_0 : GVal) : Cert Try.prog Empty Bool :=
    .call Try.m200 v_0 fun r1 =>
    .ite 5 r1
    (.call (Try.m201 Try.m225.R Try.m225.ok Try.m226.R Try.m226.ok) v_0 fun r2 =>
    .ite 9 r2
    (.call Try.m202 v_0 fun r3 =>
    .ret (!r3))
    (.ret false))
    (.ret false)
noncomputable def Try.c148 (R200 : GVal → Bool → Prop) (ok200 : Try.O200 R200) (R225 : GVal → Bool → Prop) (ok225 : Try.O225 R225) (R226 : GVal → Int → Prop) (ok226 : Try.O226 R226) (R202 : GVal → Bool → Prop) (ok202 : Try.O202 R202) : Empty → Cert Try.prog Empty Bool := fun j => nomatch j
theorem Try.h148 (R200 : GVal → Bool → Prop) (ok200 : Try.O200 R200) (R225 : GVal → Bool → Prop) (ok225 : Try.O225 R225) (R226 : GVal → Int → Prop) (ok226 : Try.O226 R226) (R202 : GVal → Bool → Prop) (ok202 : Try.O202 R202) (v_0 : GVal) : execC Try.prog Try.x148 Try.b148 [] (topC Try.prog Try.x148) (Try.a148 R200 ok200 R225 ok225 R226 ok226 R202 ok202 v_0) (ES.init [.val (.agg ((GVal.cs v_0).map R.c))]) :=
  of_triv (rs := Try.x148.rs) (snap := Try.x148.snap) (c := Try.a148 R200 ok200 R225 ok225 R226 ok226 R202 ok202 v_0) (by kernel_rfl)
theorem Try.g148 (R200 : GVal → Bool → Prop) (ok200 : Try.O200 R200) (R225 : GVal → Bool → Prop) (ok225 : Try.O225 R225) (R226 : GVal → Int → Prop) (ok226 : Try.O226 R226) (R202 : GVal → Bool → Prop) (ok202 : Try.O202 R202) : ∀ j, chkAt Try.prog Try.x148 Try.b148 (Try.x148.path j) ((Try.c148 R200 ok200 R225 ok225 R226 ok226 R202 ok202) j) (Try.x148.snap j).es := fun j => nomatch j
noncomputable def Try.m148 (R200 : GVal → Bool → Prop) (ok200 : Try.O200 R200) (R225 : GVal → Bool → Prop) (ok225 : Try.O225 R225) (R226 : GVal → Int → Prop) (ok226 : Try.O226 R226) (R202 : GVal → Bool → Prop) (ok202 : Try.O202 R202) : Mir Try.prog 148 GVal Bool where
  fs := [.agg (List.replicate 5 none)]
  ga := fun x => [.val (.agg ((GVal.cs x).map R.c))]
  caps := fun x => []
  res := Try.x148.res
  outs := Try.x148.outs
  R := fun x y => Runs (Try.a148 R200 ok200 R225 ok225 R226 ok226 R202 ok202 x) (KOf (fun j => Ev (Try.c148 R200 ok200 R225 ok225 R226 ok226 R202 ok202) j y) y)
  ok := fun x y h => sys_ok (cx := Try.x148) (body := Try.b148) Try.follow Try.func148 (by kernel_rfl) (by kernel_rfl) (by kernel_rfl) (by kernel_rfl) _ (Nat.le_of_ble_eq_true rfl) (by kernel_rfl) _ (Try.h148 R200 ok200 R225 ok225 R226 ok226 R202 ok202 x) (Try.g148 R200 ok200 R225 ok225 R226 ok226 R202 ok202) y h
  flat := true
  hflat := fun _ _ => flatE rfl
abbrev Try.O56 (Q : (GVal × GVal) → Bool → Prop) : Prop := ∀ x y, Q x y → SpecG Try.prog 56 ([.val (.agg ((GVal.cs x.1).map R.c)), .val (.agg ((GVal.cs x.2).map R.c))] ++ ([] : List C).map fun c => .val (.one (.c c))) [.one (.c (.bool y))] []
noncomputable def Try.w56 (Q : (GVal × GVal) → Bool → Prop) (ok : Try.O56 Q) : Mir Try.prog 56 (GVal × GVal) Bool where
  fs := [.agg (List.replicate 5 none), .agg (List.replicate 5 none)]
  ga := fun x => [.val (.agg ((GVal.cs x.1).map R.c)), .val (.agg ((GVal.cs x.2).map R.c))]
  caps := fun x => []
  res := fun y => [.one (.c (.bool y))]
  outs := fun y => []
  R := Q
  ok := ok
  flat := true
  hflat := fun _ _ => flatE rfl
/-! ### 56 workflow/workflowref02.Same -/
inductive Try.J56 where
  | s0 (a_t2 : GVal) (b_t3 : GVal) (i_t5 : Int)
  | s1 (a_t2 : GVal) (b_t3 : GVal) (i_t6 : Int)
noncomputable def Try.b56 : Code := Try.f56.body.getD .skip
noncomputable def Try.x56 : Cx Try.J56 Bool where
  nt := 81
  rvs := [.tmp 4]
  mh := []
  res := fun y => [.one (.c (.bool y))]
  outs := fun y => []
  path := fun
    | .s0 _ _ _ => [0, 1, 0, 1, 1]
    | .s1 _ _ _ => [0, 1, 0, 1, 1, 1]
  sig := fun
    | .s0 _ _ _ => [2, 3, 5]
    | .s1 _ _ _ => [2, 3, 6]
  snap := fun
    | .s0 a_t2 b_t3 i_t5 => ⟨[(2, .one (.ptr 0 1 0)), (3, .one (.ptr 1 1 0)), (5, .one (.c (.int .i64 i_t5)))], [((0, 1), .box ((GVal.cs a_t2).map A.c)), ((1, 1), .box ((GVal.cs b_t3).map A.c))]⟩
    | .s1 a_t2 b_t3 i_t6 => ⟨[(2, .one (.ptr 0 1 0)), (3, .one (.ptr 1 1 0)), (6, .one (.c (.int .i64 i_t6)))], [((0, 1), .box ((GVal.cs a_t2).map A.c)), ((1, 1), .box ((GVal.cs b_t3).map A.c))]⟩
noncomputable def Try.a56 (R56 : (GVal × GVal) → Bool → Prop) (ok56 : Try.O56 R56) (a_0 : GVal) (b_1 : GVal) : Cert Try.prog Try.J56 Bool :=
    .ite 12 (a_0.Kind != b_1.Kind)
    (.ret false)
    (.ite 19 (a_0.Num != b_1.Num)
    (.ret false)
    (.ite 26 (!strEq a_0.Text b_1.Text)
    (.ret false)
    (.len E.GVal a_0.Items <|
    .len E.GVal b_1.Items <|
    .ite 35 ((a_0.Items.length : Int) != (b_1.Items.length : Int))
    (.ret false)
    (.len E.str a_0.Keys <|
    .len E.str b_1.Keys <|
    .ite 43 ((a_0.Keys.length : Int) != (b_1.Keys.length : Int))
    (.ret false)
    (.jump (.s0 a_0 b_1 0) [(2000, 1), (3000, 1)])))))
noncomputable def Try.c56 (R56 : (GVal × GVal) → Bool → Prop) (ok56 : Try.O56 R56) : Try.J56 → Cert Try.prog Try.J56 Bool
  | .s0 a_t2 b_t3 i_t5 =>
    .len E.str a_t2.Keys <|
    .ite 48 (decide (i_t5 < (a_t2.Keys.length : Int)))
    (.elem E.str a_t2.Keys i_t5 fun a1 =>
    .elem E.str b_t3.Keys i_t5 fun a2 =>
    .ite 61 (!strEq a1 a2)
    (.ret false)
    (.jump (.s0 a_t2 b_t3 (IntKind.i64.wrap (i_t5 + 1))) [(0, 1), (1, 1)]))
    (.jump (.s1 a_t2 b_t3 0) [(0, 1), (1, 1)])
  | .s1 a_t2 b_t3 i_t6 =>
    .len E.GVal a_t2.Items <|
    .ite 66 (decide (i_t6 < (a_t2.Items.length : Int)))
    (.elem E.GVal a_t2.Items i_t6 fun a3 =>
    .elem E.GVal b_t3.Items i_t6 fun a4 =>
    .call (Try.w56 R56 ok56) (a3, a4) fun r5 =>
    .ite 80 (!r5)
    (.ret false)
    (.jump (.s1 a_t2 b_t3 (IntKind.i64.wrap (i_t6 + 1))) [(0, 1), (1, 1)]))
    (.ret true)
theorem Try.h56 (R56 : (GVal × GVal) → Bool → Prop) (ok56 : Try.O56 R56) (a_0 : GVal) (b_1 : GVal) : execC Try.prog Try.x56 Try.b56 [] (topC Try.prog Try.x56) (Try.a56 R56 ok56 a_0 b_1) (ES.init [.val (.agg ((GVal.cs a_0).map R.c)), .val (.agg ((GVal.cs b_1).map R.c))]) :=
  of_triv (rs := Try.x56.rs) (snap := Try.x56.snap) (c := Try.a56 R56 ok56 a_0 b_1) (by kernel_rfl)
theorem Try.g56 (R56 : (GVal × GVal) → Bool → Prop) (ok56 : Try.O56 R56) : ∀ j, chkAt Try.prog Try.x56 Try.b56 (Try.x56.path j) ((Try.c56 R56 ok56) j) (Try.x56.snap j).es
  | .s0 a_t2 b_t3 i_t5 => of_triv (rs := Try.x56.rs) (snap := Try.x56.snap) (c := Try.c56 R56 ok56 (.s0 a_t2 b_t3 i_t5)) (by kernel_rfl)
  | .s1 a_t2 b_t3 i_t6 => of_triv (rs := Try.x56.rs) (snap := Try.x56.snap) (c := Try.c56 R56 ok56 (.s1 a_t2 b_t3 i_t6)) (by kernel_rfl)
noncomputable def Try.n56 : Nat → {Q : (GVal × GVal) → Bool → Prop // Try.O56 Q}
  | 0 => ⟨fun _ _ => False, fun _ _ h => h.elim⟩
  | n + 1 => ⟨fun x y => Runs (Try.a56 (Try.n56 n).1 (Try.n56 n).2 x.1 x.2) (KOf (fun j => Ev (Try.c56 (Try.n56 n).1 (Try.n56 n).2) j y) y), fun x y h => sys_ok (cx := Try.x56) (body := Try.b56) Try.follow Try.func56 (by kernel_rfl) (by kernel_rfl) (by kernel_rfl) (by kernel_rfl) _ (Nat.le_of_ble_eq_true rfl) (by kernel_rfl) _ (Try.h56 (Try.n56 n).1 (Try.n56 n).2 x.1 x.2) (Try.g56 (Try.n56 n).1 (Try.n56 n).2) y h⟩
noncomputable def Try.m56 : Mir Try.prog 56 (GVal × GVal) Bool := Try.w56 (fun x y => ∃ n, (Try.n56 n).1 x y) (fun x y h => (Try.n56 h.choose).2 x y h.choose_spec)
abbrev Try.O153 (Q : GVal → GVal → Prop) : Prop := ∀ x y, Q x y → SpecG Try.prog 153 ([.val (.agg ((GVal.cs x).map R.c))] ++ ([] : List C).map fun c => .val (.one (.c c))) [.agg ((((GVal.cs y).map R.c).set 3 (.own 25 5 (E.GVal.L y.Items))).set 4 (.own 9 1 (E.str.L y.Keys)))] []
noncomputable def Try.w153 (Q : GVal → GVal → Prop) (ok : Try.O153 Q) : Mir Try.prog 153 GVal GVal where
  fs := [.agg (List.replicate 5 none)]
  ga := fun x => [.val (.agg ((GVal.cs x).map R.c))]
  caps := fun x => []
  res := fun y => [.agg ((((GVal.cs y).map R.c).set 3 (.own 25 5 (E.GVal.L y.Items))).set 4 (.own 9 1 (E.str.L y.Keys)))]
  outs := fun y => []
  R := Q
  ok := ok
  flat := false
  hflat := fun h => nomatch h
/-! ### 203 workflow/value.copies -/
inductive Try.J203 where
  | s0 (out_t3 : List GVal) (t6 : List GVal) (t7 : Int) (t8 : Int)
noncomputable def Try.b203 : Code := Try.f203.body.getD .skip
noncomputable def Try.x203 : Cx Try.J203 (List GVal) where
  nt := 19
  rvs := [.tmp 2]
  mh := []
  res := fun y => [.one (.own 25 5 (E.GVal.L y))]
  outs := fun y => []
  path := fun
    | .s0 _ _ _ _ => [0, 1, 0, 1, 1]
  sig := fun
    | .s0 _ _ _ _ => [3, 6, 7, 8]
  snap := fun
    | .s0 out_t3 t6 t7 t8 => ⟨[(3, .one (.own 0 1)), (6, .one (.c (.sl (E.GVal.L t6)))), (7, .one (.c (.int .i64 t7))), (8, .one (.c (.int .i64 t8)))], [((0, 1), .arr 25 5 (E.GVal.L out_t3))]⟩
noncomputable def Try.a203 (R153 : GVal → GVal → Prop) (ok153 : Try.O153 R153) (l_0 : List GVal) : Cert Try.prog Try.J203 (List GVal) :=
    .len E.GVal l_0 <|
    .adoptT 3 25 5 <|
    .jump (.s0 [] l_0 (l_0.length : Int) 0) [(3999, 1)]
noncomputable def Try.c203 (R153 : GVal → GVal → Prop) (ok153 : Try.O153 R153) : Try.J203 → Cert Try.prog Try.J203 (List GVal)
  | .s0 out_t3 t6 t7 t8 =>
    .ite 9 (decide (t8 < t7))
    (.elem E.GVal t6 t8 fun a1 =>
    .call (Try.w153 R153 ok153) a1 fun r2 =>
    .bld E.GVal [r2] <|
    .app E.GVal 80 out_t3 [r2] <|
    .jump (.s0 (out_t3 ++ [r2]) t6 t7 (IntKind.i64.wrap (t8 + 1))) [(16000, 2)])
    (.ret out_t3)
theorem Try.h203 (R153 : GVal → GVal → Prop) (ok153 : Try.O153 R153) (l_0 : List GVal) : execC Try.prog Try.x203 Try.b203 [] (topC Try.prog Try.x203) (Try.a203 R153 ok153 l_0) (ES.init [.val (.one (.c (.sl (E.GVal.L l_0))))]) :=
  of_triv (rs := Try.x203.rs) (snap := Try.x203.snap) (c := Try.a203 R153 ok153 l_0) (by kernel_rfl)
theorem Try.g203 (R153 : GVal → GVal → Prop) (ok153 : Try.O153 R153) : ∀ j, chkAt Try.prog Try.x203 Try.b203 (Try.x203.path j) ((Try.c203 R153 ok153) j) (Try.x203.snap j).es
  | .s0 out_t3 t6 t7 t8 => of_triv (rs := Try.x203.rs) (snap := Try.x203.snap) (c := Try.c203 R153 ok153 (.s0 out_t3 t6 t7 t8)) (by kernel_rfl)
noncomputable def Try.m203 (R153 : GVal → GVal → Prop) (ok153 : Try.O153 R153) : Mir Try.prog 203 (List GVal) (List GVal) where
  fs := [.one none]
  ga := fun x => [.val (.one (.c (.sl (E.GVal.L x))))]
  caps := fun x => []
  res := Try.x203.res
  outs := Try.x203.outs
  R := fun x y => Runs (Try.a203 R153 ok153 x) (KOf (fun j => Ev (Try.c203 R153 ok153) j y) y)
  ok := fun x y h => sys_ok (cx := Try.x203) (body := Try.b203) Try.follow Try.func203 (by kernel_rfl) (by kernel_rfl) (by kernel_rfl) (by kernel_rfl) _ (Nat.le_of_ble_eq_true rfl) (by kernel_rfl) _ (Try.h203 R153 ok153 x) (Try.g203 R153 ok153) y h
  flat := false
  hflat := fun h => nomatch h
/-! ### 136 slices.Clone[[]string,string] -/
noncomputable def Try.b136 : Code := Try.f136.body.getD .skip
noncomputable def Try.x136 : Cx Empty (List ByteArray) where
  nt := 8
  rvs := [.tmp 2]
  mh := []
  res := fun y => [.one (.own 9 1 (E.str.L y))]
  outs := fun y => []
  path := fun j => nomatch j
  sig := fun j => nomatch j
  snap := fun j => nomatch j
noncomputable def Try.a136 (s_0 : List ByteArray) : Cert Try.prog Empty (List ByteArray) :=
    .nilt E.str s_0 fun b1 =>
    .ite 4 b1
    (.ret [])
    (.bld E.str [] <|
    .app E.str 16 [] s_0 <|
    .ret ([] ++ s_0))
noncomputable def Try.c136 : Empty → Cert Try.prog Empty (List ByteArray) := fun j => nomatch j
theorem Try.h136 (s_0 : List ByteArray) : execC Try.prog Try.x136 Try.b136 [] (topC Try.prog Try.x136) (Try.a136 s_0) (ES.init [.val (.one (.c (.sl (E.str.L s_0))))]) :=
  of_triv (rs := Try.x136.rs) (snap := Try.x136.snap) (c := Try.a136 s_0) (by kernel_rfl)
theorem Try.g136 : ∀ j, chkAt Try.prog Try.x136 Try.b136 (Try.x136.path j) (Try.c136 j) (Try.x136.snap j).es := fun j => nomatch j
noncomputable def Try.m136 : Mir Try.prog 136 (List ByteArray) (List ByteArray) where
  fs := [.one none]
  ga := fun x => [.val (.one (.c (.sl (E.str.L x))))]
  caps := fun x => []
  res := Try.x136.res
  outs := Try.x136.outs
  R := fun x y => Runs (Try.a136 x) (KOf (fun j => Ev (Try.c136) j y) y)
  ok := fun x y h => sys_ok (cx := Try.x136) (body := Try.b136) Try.follow Try.func136 (by kernel_rfl) (by kernel_rfl) (by kernel_rfl) (by kernel_rfl) _ (Nat.le_of_ble_eq_true rfl) (by kernel_rfl) _ (Try.h136 x) (Try.g136) y h
  flat := false
  hflat := fun h => nomatch h
/-! ### 153 workflow/value.Copy -/
noncomputable def Try.b153 : Code := Try.f153.body.getD .skip
noncomputable def Try.x153 : Cx Empty GVal where
  nt := 12
  rvs := [.cell 2 25]
  mh := []
  res := fun y => [.agg ((((GVal.cs y).map R.c).set 3 (.own 25 5 (E.GVal.L y.Items))).set 4 (.own 9 1 (E.str.L y.Keys)))]
  outs := fun y => []
  path := fun j => nomatch j
  sig := fun j => nomatch j
  snap := fun j => nomatch j
noncomputable def Try.a153 (R153 : GVal → GVal → Prop) (ok153 : Try.O153 R153) (v_0 : GVal) : Cert Try.prog Empty GVal :=
    .call (Try.m203 R153 ok153) v_0.Items fun r1 =>
    .call Try.m136 v_0.Keys fun r2 =>
    .ret (GVal.mk v_0.Kind v_0.Num v_0.Text r1 r2)
noncomputable def Try.c153 (R153 : GVal → GVal → Prop) (ok153 : Try.O153 R153) : Empty → Cert Try.prog Empty GVal := fun j => nomatch j
theorem Try.h153 (R153 : GVal → GVal → Prop) (ok153 : Try.O153 R153) (v_0 : GVal) : execC Try.prog Try.x153 Try.b153 [] (topC Try.prog Try.x153) (Try.a153 R153 ok153 v_0) (ES.init [.val (.agg ((GVal.cs v_0).map R.c))]) :=
  of_triv (rs := Try.x153.rs) (snap := Try.x153.snap) (c := Try.a153 R153 ok153 v_0) (by kernel_rfl)
theorem Try.g153 (R153 : GVal → GVal → Prop) (ok153 : Try.O153 R153) : ∀ j, chkAt Try.prog Try.x153 Try.b153 (Try.x153.path j) ((Try.c153 R153 ok153) j) (Try.x153.snap j).es := fun j => nomatch j
noncomputable def Try.n153 : Nat → {Q : GVal → GVal → Prop // Try.O153 Q}
  | 0 => ⟨fun _ _ => False, fun _ _ h => h.elim⟩
  | n + 1 => ⟨fun x y => Runs (Try.a153 (Try.n153 n).1 (Try.n153 n).2 x) (KOf (fun j => Ev (Try.c153 (Try.n153 n).1 (Try.n153 n).2) j y) y), fun x y h => sys_ok (cx := Try.x153) (body := Try.b153) Try.follow Try.func153 (by kernel_rfl) (by kernel_rfl) (by kernel_rfl) (by kernel_rfl) _ (Nat.le_of_ble_eq_true rfl) (by kernel_rfl) _ (Try.h153 (Try.n153 n).1 (Try.n153 n).2 x) (Try.g153 (Try.n153 n).1 (Try.n153 n).2) y h⟩
noncomputable def Try.m153 : Mir Try.prog 153 GVal GVal := Try.w153 (fun x y => ∃ n, (Try.n153 n).1 x y) (fun x y h => (Try.n153 h.choose).2 x y h.choose_spec)
/-! ### 194 workflow/name.letter -/
noncomputable def Try.b194 : Code := Try.f194.body.getD .skip
noncomputable def Try.x194 : Cx Empty Bool where
  nt := 21
  rvs := [.tmp 2]
  mh := []
  res := fun y => [.one (.c (.bool y))]
  outs := fun y => []
  path := fun j => nomatch j
  sig := fun j => nomatch j
  snap := fun j => nomatch j
noncomputable def Try.a194 (c_0 : Int) : Cert Try.prog Empty Bool :=
    .ite 5 (decide (97 ≤ c_0))
    (.ite 9 (decide (c_0 ≤ 122))
    (.ret true)
    (.ite 12 (decide (65 ≤ c_0))
    (.ite 17 (decide (c_0 ≤ 90))
    (.ret true)
    (.ret (c_0 == 95)))
    (.ret (c_0 == 95))))
    (.ite 12 (decide (65 ≤ c_0))
    (.ite 17 (decide (c_0 ≤ 90))
    (.ret true)
    (.ret (c_0 == 95)))
    (.ret (c_0 == 95)))
noncomputable def Try.c194 : Empty → Cert Try.prog Empty Bool := fun j => nomatch j
theorem Try.h194 (c_0 : Int) : execC Try.prog Try.x194 Try.b194 [] (topC Try.prog Try.x194) (Try.a194 c_0) (ES.init [.val (.one (.c (.int .u8 c_0)))]) :=
  of_triv (rs := Try.x194.rs) (snap := Try.x194.snap) (c := Try.a194 c_0) (by kernel_rfl)
theorem Try.g194 : ∀ j, chkAt Try.prog Try.x194 Try.b194 (Try.x194.path j) (Try.c194 j) (Try.x194.snap j).es := fun j => nomatch j
noncomputable def Try.m194 : Mir Try.prog 194 Int Bool where
  fs := [.one none]
  ga := fun x => [.val (.one (.c (.int .u8 x)))]
  caps := fun x => []
  res := Try.x194.res
  outs := Try.x194.outs
  R := fun x y => Runs (Try.a194 x) (KOf (fun j => Ev (Try.c194) j y) y)
  ok := fun x y h => sys_ok (cx := Try.x194) (body := Try.b194) Try.follow Try.func194 (by kernel_rfl) (by kernel_rfl) (by kernel_rfl) (by kernel_rfl) _ (Nat.le_of_ble_eq_true rfl) (by kernel_rfl) _ (Try.h194 x) (Try.g194) y h
  flat := true
  hflat := fun _ _ => flatE rfl
/-! ### 139 workflow/name.Right -/
inductive Try.J139 where
  | s0 (s_t0 : ByteArray) (t12 : Int) (t13 : Int)
noncomputable def Try.b139 : Code := Try.f139.body.getD .skip
noncomputable def Try.x139 : Cx Try.J139 Bool where
  nt := 38
  rvs := [.tmp 2]
  mh := []
  res := fun y => [.one (.c (.bool y))]
  outs := fun y => []
  path := fun
    | .s0 _ _ _ => [0, 1, 0, 1, 1]
  sig := fun
    | .s0 _ _ _ => [0, 12, 13]
  snap := fun
    | .s0 s_t0 t12 t13 => ⟨[(0, .one (.c (.str s_t0))), (12, .one (.c (.int .i64 t12))), (13, .one (.c (.int .i64 t13)))], []⟩
noncomputable def Try.a139 (s_0 : ByteArray) : Cert Try.prog Try.J139 Bool :=
    .ite 6 (strEq s_0 (⟨#[]⟩ : ByteArray))
    (.ret false)
    (.ite 10 (decide (64 < (s_0.size : Int)))
    (.ret false)
    (.jump (.s0 s_0 (s_0.size : Int) 0) []))
noncomputable def Try.c139 : Try.J139 → Cert Try.prog Try.J139 Bool
  | .s0 s_t0 t12 t13 =>
    .ite 14 (decide (t13 < t12))
    (.byte s_t0 t13 <|
    .call Try.m194 (byteAt s_t0 t13.toNat) fun r1 =>
    .ite 21 (!r1)
    (.ite 24 (t13 == 0)
    (.ret false)
    (.byte s_t0 t13 <|
    .ite 30 (decide ((byteAt s_t0 t13.toNat) < 48))
    (.ret false)
    (.byte s_t0 t13 <|
    .ite 36 (decide (57 < (byteAt s_t0 t13.toNat)))
    (.ret false)
    (.jump (.s0 s_t0 t12 (IntKind.i64.wrap (t13 + 1))) []))))
    (.jump (.s0 s_t0 t12 (IntKind.i64.wrap (t13 + 1))) []))
    (.ret true)
theorem Try.h139 (s_0 : ByteArray) : execC Try.prog Try.x139 Try.b139 [] (topC Try.prog Try.x139) (Try.a139 s_0) (ES.init [.val (.one (.c (.str s_0)))]) :=
  of_triv (rs := Try.x139.rs) (snap := Try.x139.snap) (c := Try.a139 s_0) (by kernel_rfl)
theorem Try.g139 : ∀ j, chkAt Try.prog Try.x139 Try.b139 (Try.x139.path j) (Try.c139 j) (Try.x139.snap j).es
  | .s0 s_t0 t12 t13 => of_triv (rs := Try.x139.rs) (snap := Try.x139.snap) (c := Try.c139 (.s0 s_t0 t12 t13)) (by kernel_rfl)
noncomputable def Try.m139 : Mir Try.prog 139 ByteArray Bool where
  fs := [.one none]
  ga := fun x => [.val (.one (.c (.str x)))]
  caps := fun x => []
  res := Try.x139.res
  outs := Try.x139.outs
  R := fun x y => Runs (Try.a139 x) (KOf (fun j => Ev (Try.c139) j y) y)
  ok := fun x y h => sys_ok (cx := Try.x139) (body := Try.b139) Try.follow Try.func139 (by kernel_rfl) (by kernel_rfl) (by kernel_rfl) (by kernel_rfl) _ (Nat.le_of_ble_eq_true rfl) (by kernel_rfl) _ (Try.h139 x) (Try.g139) y h
  flat := true
  hflat := fun _ _ => flatE rfl
/-! ### 193 workflow/workflowref06.letter -/
noncomputable def Try.b193 : Code := Try.f193.body.getD .skip
noncomputable def Try.x193 : Cx Empty Bool where
  nt := 29
  rvs := [.tmp 2]
  mh := []
  res := fun y => [.one (.c (.bool y))]
  outs := fun y => []
  path := fun j => nomatch j
  sig := fun j => nomatch j
  snap := fun j => nomatch j
noncomputable def Try.a193 (c_0 : Int) : Cert Try.prog Empty Bool :=
    .ite 5 (decide (97 ≤ c_0))
    (.ite 9 (decide (c_0 ≤ 122))
    (.ret true)
    (.ite 12 (decide (65 ≤ c_0))
    (.ite 17 (decide (c_0 ≤ 90))
    (.ret true)
    (.ite 20 (decide (48 ≤ c_0))
    (.ite 25 (decide (c_0 ≤ 57))
    (.ret true)
    (.ret (c_0 == 95)))
    (.ret (c_0 == 95))))
    (.ite 20 (decide (48 ≤ c_0))
    (.ite 25 (decide (c_0 ≤ 57))
    (.ret true)
    (.ret (c_0 == 95)))
    (.ret (c_0 == 95)))))
    (.ite 12 (decide (65 ≤ c_0))
    (.ite 17 (decide (c_0 ≤ 90))
    (.ret true)
    (.ite 20 (decide (48 ≤ c_0))
    (.ite 25 (decide (c_0 ≤ 57))
    (.ret true)
    (.ret (c_0 == 95)))
    (.ret (c_0 == 95))))
    (.ite 20 (decide (48 ≤ c_0))
    (.ite 25 (decide (c_0 ≤ 57))
    (.ret true)
    (.ret (c_0 == 95)))
    (.ret (c_0 == 95))))
noncomputable def Try.c193 : Empty → Cert Try.prog Empty Bool := fun j => nomatch j
theorem Try.h193 (c_0 : Int) : execC Try.prog Try.x193 Try.b193 [] (topC Try.prog Try.x193) (Try.a193 c_0) (ES.init [.val (.one (.c (.int .u8 c_0)))]) :=
  of_triv (rs := Try.x193.rs) (snap := Try.x193.snap) (c := Try.a193 c_0) (by kernel_rfl)
theorem Try.g193 : ∀ j, chkAt Try.prog Try.x193 Try.b193 (Try.x193.path j) (Try.c193 j) (Try.x193.snap j).es := fun j => nomatch j
noncomputable def Try.m193 : Mir Try.prog 193 Int Bool where
  fs := [.one none]
  ga := fun x => [.val (.one (.c (.int .u8 x)))]
  caps := fun x => []
  res := Try.x193.res
  outs := Try.x193.outs
  R := fun x y => Runs (Try.a193 x) (KOf (fun j => Ev (Try.c193) j y) y)
  ok := fun x y h => sys_ok (cx := Try.x193) (body := Try.b193) Try.follow Try.func193 (by kernel_rfl) (by kernel_rfl) (by kernel_rfl) (by kernel_rfl) _ (Nat.le_of_ble_eq_true rfl) (by kernel_rfl) _ (Try.h193 x) (Try.g193) y h
  flat := true
  hflat := fun _ _ => flatE rfl
/-! ### 135 workflow/workflowref06.Right -/
inductive Try.J135 where
  | s0 (s_t0 : ByteArray)
  | s1 (s_t0 : ByteArray) (i_t3 : Int)
noncomputable def Try.b135 : Code := Try.f135.body.getD .skip
noncomputable def Try.x135 : Cx Try.J135 Bool where
  nt := 33
  rvs := [.tmp 2]
  mh := []
  res := fun y => [.one (.c (.bool y))]
  outs := fun y => []
  path := fun
    | .s0 _ => [1, 1]
    | .s1 _ _ => [0, 1, 0, 1, 1]
  sig := fun
    | .s0 _ => [0]
    | .s1 _ _ => [0, 3]
  snap := fun
    | .s0 s_t0 => ⟨[(0, .one (.c (.str s_t0)))], []⟩
    | .s1 s_t0 i_t3 => ⟨[(0, .one (.c (.str s_t0))), (3, .one (.c (.int .i64 i_t3)))], []⟩
noncomputable def Try.a135 (s_0 : ByteArray) : Cert Try.prog Try.J135 Bool :=
    .ite 7 (decide ((s_0.size : Int) < 1))
    (.ret false)
    (.ite 12 (decide (64 < (s_0.size : Int)))
    (.ret false)
    (.byte s_0 0 <|
    .ite 16 (decide (48 ≤ (byteAt s_0 ((0 : Int).toNat))))
    (.byte s_0 0 <|
    .ite 21 (decide ((byteAt s_0 ((0 : Int).toNat)) ≤ 57))
    (.ret false)
    (.jump (.s0 s_0) []))
    (.jump (.s0 s_0) [])))
noncomputable def Try.c135 : Try.J135 → Cert Try.prog Try.J135 Bool
  | .s0 s_t0 =>
    .jump (.s1 s_t0 0) []
  | .s1 s_t0 i_t3 =>
    .ite 25 (decide (i_t3 < (s_t0.size : Int)))
    (.byte s_t0 i_t3 <|
    .call Try.m193 (byteAt s_t0 i_t3.toNat) fun r1 =>
    .ite 32 (!r1)
    (.ret false)
    (.jump (.s1 s_t0 (IntKind.i64.wrap (i_t3 + 1))) []))
    (.ret true)
theorem Try.h135 (s_0 : ByteArray) : execC Try.prog Try.x135 Try.b135 [] (topC Try.prog Try.x135) (Try.a135 s_0) (ES.init [.val (.one (.c (.str s_0)))]) :=
  of_triv (rs := Try.x135.rs) (snap := Try.x135.snap) (c := Try.a135 s_0) (by kernel_rfl)
theorem Try.g135 : ∀ j, chkAt Try.prog Try.x135 Try.b135 (Try.x135.path j) (Try.c135 j) (Try.x135.snap j).es
  | .s0 s_t0 => of_triv (rs := Try.x135.rs) (snap := Try.x135.snap) (c := Try.c135 (.s0 s_t0)) (by kernel_rfl)
  | .s1 s_t0 i_t3 => of_triv (rs := Try.x135.rs) (snap := Try.x135.snap) (c := Try.c135 (.s1 s_t0 i_t3)) (by kernel_rfl)
noncomputable def Try.m135 : Mir Try.prog 135 ByteArray Bool where
  fs := [.one none]
  ga := fun x => [.val (.one (.c (.str x)))]
  caps := fun x => []
  res := Try.x135.res
  outs := Try.x135.outs
  R := fun x y => Runs (Try.a135 x) (KOf (fun j => Ev (Try.c135) j y) y)
  ok := fun x y h => sys_ok (cx := Try.x135) (body := Try.b135) Try.follow Try.func135 (by kernel_rfl) (by kernel_rfl) (by kernel_rfl) (by kernel_rfl) _ (Nat.le_of_ble_eq_true rfl) (by kernel_rfl) _ (Try.h135 x) (Try.g135) y h
  flat := true
  hflat := fun _ _ => flatE rfl
end Go.Proofs
