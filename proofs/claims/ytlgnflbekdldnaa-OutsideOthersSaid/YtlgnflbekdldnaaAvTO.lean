/- Printed by pr.py. -/
import Derived.Test.YtlgnflbekdldnaaAvTV
set_option linter.unusedVariables false
set_option maxRecDepth 100000
set_option maxHeartbeats 2000000
namespace Go.Proofs
open Go Go.AV
abbrev Try.O123 (Q : (GVal × Int) → Int → Prop) : Prop := ∀ x y, Q x y → SpecG Try.prog 123 ([.val (.agg ((GVal.cs x.1).map R.c)), .val (.one (.c (.int .i64 x.2)))] ++ ([] : List C).map fun c => .val (.one (.c c))) [.one (.c (.int .i64 y))] []
noncomputable def Try.w123 (Q : (GVal × Int) → Int → Prop) (ok : Try.O123 Q) : Mir Try.prog 123 (GVal × Int) Int where
  fs := [.agg (List.replicate 5 none), .one none]
  ga := fun x => [.val (.agg ((GVal.cs x.1).map R.c)), .val (.one (.c (.int .i64 x.2)))]
  caps := fun x => []
  res := fun y => [.one (.c (.int .i64 y))]
  outs := fun y => []
  R := Q
  ok := ok
  flat := true
  hflat := fun _ _ => flatE rfl
/-! ### 123 workflow/workflowlaw03.Few -/
inductive Try.J123 where
  | s0 (most_t1 : Int) (v_t2 : GVal) (i_t5 : Int)
  | s1 (most_t1 : Int) (v_t2 : GVal)
  | s2 (most_t1 : Int) (v_t2 : GVal) (i_t6 : Int)
noncomputable def Try.b123 : Code := Try.f123.body.getD .skip
noncomputable def Try.x123 : Cx Try.J123 Int where
  nt := 51
  rvs := [.tmp 4]
  mh := []
  res := fun y => [.one (.c (.int .i64 y))]
  outs := fun y => []
  path := fun
    | .s0 _ _ _ => [0, 1, 0, 1, 1]
    | .s1 _ _ => [1, 1, 1]
    | .s2 _ _ _ => [0, 1, 0, 1, 1, 1]
  sig := fun
    | .s0 _ _ _ => [1, 2, 5]
    | .s1 _ _ => [1, 2]
    | .s2 _ _ _ => [1, 2, 6]
  snap := fun
    | .s0 most_t1 v_t2 i_t5 => ⟨[(1, .one (.c (.int .i64 most_t1))), (2, .one (.ptr 0 1 0)), (5, .one (.c (.int .i64 i_t5)))], [((0, 1), .box ((GVal.cs v_t2).map A.c))]⟩
    | .s1 most_t1 v_t2 => ⟨[(1, .one (.c (.int .i64 most_t1))), (2, .one (.ptr 0 1 0))], [((0, 1), .box ((GVal.cs v_t2).map A.c))]⟩
    | .s2 most_t1 v_t2 i_t6 => ⟨[(1, .one (.c (.int .i64 most_t1))), (2, .one (.ptr 0 1 0)), (6, .one (.c (.int .i64 i_t6)))], [((0, 1), .box ((GVal.cs v_t2).map A.c))]⟩
noncomputable def Try.a123 (R123 : (GVal × Int) → Int → Prop) (ok123 : Try.O123 R123) (v_0 : GVal) (most_1 : Int) : Cert Try.prog Try.J123 Int :=
    .jump (.s0 (IntKind.i64.wrap ((IntKind.i64.wrap (most_1 - 1)) - (v_0.Text.size : Int))) v_0 0) [(2000, 1)]
noncomputable def Try.c123 (R123 : (GVal × Int) → Int → Prop) (ok123 : Try.O123 R123) : Try.J123 → Cert Try.prog Try.J123 Int
  | .s0 most_t1 v_t2 i_t5 =>
    .len E.str v_t2.Keys <|
    .ite 18 (decide (i_t5 < (v_t2.Keys.length : Int)))
    (.ite 21 (decide (0 ≤ most_t1))
    (.elem E.str v_t2.Keys i_t5 fun a1 =>
    .jump (.s0 (IntKind.i64.wrap (most_t1 - (a1.size : Int))) v_t2 (IntKind.i64.wrap (i_t5 + 1))) [(0, 1)])
    (.jump (.s1 most_t1 v_t2) [(0, 1)]))
    (.jump (.s1 most_t1 v_t2) [(0, 1)])
  | .s1 most_t1 v_t2 =>
    .jump (.s2 most_t1 v_t2 0) [(0, 1)]
  | .s2 most_t1 v_t2 i_t6 =>
    .len E.GVal v_t2.Items <|
    .ite 37 (decide (i_t6 < (v_t2.Items.length : Int)))
    (.ite 40 (decide (0 ≤ most_t1))
    (.elem E.GVal v_t2.Items i_t6 fun a2 =>
    .call (Try.w123 R123 ok123) (a2, most_t1) fun r3 =>
    .jump (.s2 r3 v_t2 (IntKind.i64.wrap (i_t6 + 1))) [(0, 1)])
    (.ret most_t1))
    (.ret most_t1)
theorem Try.h123 (R123 : (GVal × Int) → Int → Prop) (ok123 : Try.O123 R123) (v_0 : GVal) (most_1 : Int) : execC Try.prog Try.x123 Try.b123 [] (topC Try.prog Try.x123) (Try.a123 R123 ok123 v_0 most_1) (ES.init [.val (.agg ((GVal.cs v_0).map R.c)), .val (.one (.c (.int .i64 most_1)))]) :=
  of_triv (rs := Try.x123.rs) (snap := Try.x123.snap) (c := Try.a123 R123 ok123 v_0 most_1) (by kernel_rfl)
theorem Try.g123 (R123 : (GVal × Int) → Int → Prop) (ok123 : Try.O123 R123) : ∀ j, chkAt Try.prog Try.x123 Try.b123 (Try.x123.path j) ((Try.c123 R123 ok123) j) (Try.x123.snap j).es
  | .s0 most_t1 v_t2 i_t5 => of_triv (rs := Try.x123.rs) (snap := Try.x123.snap) (c := Try.c123 R123 ok123 (.s0 most_t1 v_t2 i_t5)) (by kernel_rfl)
  | .s1 most_t1 v_t2 => of_triv (rs := Try.x123.rs) (snap := Try.x123.snap) (c := Try.c123 R123 ok123 (.s1 most_t1 v_t2)) (by kernel_rfl)
  | .s2 most_t1 v_t2 i_t6 => of_triv (rs := Try.x123.rs) (snap := Try.x123.snap) (c := Try.c123 R123 ok123 (.s2 most_t1 v_t2 i_t6)) (by kernel_rfl)
noncomputable def Try.n123 : Nat → {Q : (GVal × Int) → Int → Prop // Try.O123 Q}
  | 0 => ⟨fun _ _ => False, fun _ _ h => h.elim⟩
  | n + 1 => ⟨fun x y => Runs (Try.a123 (Try.n123 n).1 (Try.n123 n).2 x.1 x.2) (KOf (fun j => Ev (Try.c123 (Try.n123 n).1 (Try.n123 n).2) j y) y), fun x y h => sys_ok (cx := Try.x123) (body := Try.b123) Try.follow Try.func123 (by kernel_rfl) (by kernel_rfl) (by kernel_rfl) (by kernel_rfl) _ (Nat.le_of_ble_eq_true rfl) (by kernel_rfl) _ (Try.h123 (Try.n123 n).1 (Try.n123 n).2 x.1 x.2) (Try.g123 (Try.n123 n).1 (Try.n123 n).2) y h⟩
noncomputable def Try.m123 : Mir Try.prog 123 (GVal × Int) Int := Try.w123 (fun x y => ∃ n, (Try.n123 n).1 x y) (fun x y h => (Try.n123 h.choose).2 x y h.choose_spec)
abbrev Try.O115 (Q : (GVal × GVal) → Bool → Prop) : Prop := ∀ x y, Q x y → SpecG Try.prog 115 ([.val (.agg ((GVal.cs x.1).map R.c)), .val (.agg ((GVal.cs x.2).map R.c))] ++ ([] : List C).map fun c => .val (.one (.c c))) [.one (.c (.bool y))] []
noncomputable def Try.w115 (Q : (GVal × GVal) → Bool → Prop) (ok : Try.O115 Q) : Mir Try.prog 115 (GVal × GVal) Bool where
  fs := [.agg (List.replicate 5 none), .agg (List.replicate 5 none)]
  ga := fun x => [.val (.agg ((GVal.cs x.1).map R.c)), .val (.agg ((GVal.cs x.2).map R.c))]
  caps := fun x => []
  res := fun y => [.one (.c (.bool y))]
  outs := fun y => []
  R := Q
  ok := ok
  flat := true
  hflat := fun _ _ => flatE rfl
/-! ### 182 slices.Equal[[]string,string] -/
inductive Try.J182 where
  | s0 (s1_t0 : List ByteArray) (s2_t1 : List ByteArray) (t12 : Int) (t13 : Int)
noncomputable def Try.b182 : Code := Try.f182.body.getD .skip
noncomputable def Try.x182 : Cx Try.J182 Bool where
  nt := 26
  rvs := [.tmp 4]
  mh := []
  res := fun y => [.one (.c (.bool y))]
  outs := fun y => []
  path := fun
    | .s0 _ _ _ _ => [0, 1, 0, 1, 1]
  sig := fun
    | .s0 _ _ _ _ => [0, 1, 12, 13]
  snap := fun
    | .s0 s1_t0 s2_t1 t12 t13 => ⟨[(0, .one (.c (.sl (E.str.L s1_t0)))), (1, .one (.c (.sl (E.str.L s2_t1)))), (12, .one (.c (.int .i64 t12))), (13, .one (.c (.int .i64 t13)))], []⟩
noncomputable def Try.a182 (s1_0 : List ByteArray) (s2_1 : List ByteArray) : Cert Try.prog Try.J182 Bool :=
    .len E.str s1_0 <|
    .len E.str s2_1 <|
    .ite 10 ((s1_0.length : Int) != (s2_1.length : Int))
    (.ret false)
    (.len E.str s1_0 <|
    .jump (.s0 s1_0 s2_1 (s1_0.length : Int) 0) [])
noncomputable def Try.c182 : Try.J182 → Cert Try.prog Try.J182 Bool
  | .s0 s1_t0 s2_t1 t12 t13 =>
    .ite 14 (decide (t13 < t12))
    (.elem E.str s1_t0 t13 fun a1 =>
    .elem E.str s2_t1 t13 fun a2 =>
    .ite 24 (!strEq a1 a2)
    (.ret false)
    (.jump (.s0 s1_t0 s2_t1 t12 (IntKind.i64.wrap (t13 + 1))) []))
    (.ret true)
theorem Try.h182 (s1_0 : List ByteArray) (s2_1 : List ByteArray) : execC Try.prog Try.x182 Try.b182 [] (topC Try.prog Try.x182) (Try.a182 s1_0 s2_1) (ES.init [.val (.one (.c (.sl (E.str.L s1_0)))), .val (.one (.c (.sl (E.str.L s2_1))))]) :=
  of_triv (rs := Try.x182.rs) (snap := Try.x182.snap) (c := Try.a182 s1_0 s2_1) (by kernel_rfl)
theorem Try.g182 : ∀ j, chkAt Try.prog Try.x182 Try.b182 (Try.x182.path j) (Try.c182 j) (Try.x182.snap j).es
  | .s0 s1_t0 s2_t1 t12 t13 => of_triv (rs := Try.x182.rs) (snap := Try.x182.snap) (c := Try.c182 (.s0 s1_t0 s2_t1 t12 t13)) (by kernel_rfl)
noncomputable def Try.m182 : Mir Try.prog 182 ((List ByteArray) × (List ByteArray)) Bool where
  fs := [.one none, .one none]
  ga := fun x => [.val (.one (.c (.sl (E.str.L x.1)))), .val (.one (.c (.sl (E.str.L x.2))))]
  caps := fun x => []
  res := Try.x182.res
  outs := Try.x182.outs
  R := fun x y => Runs (Try.a182 x.1 x.2) (KOf (fun j => Ev (Try.c182) j y) y)
  ok := fun x y h => sys_ok (cx := Try.x182) (body := Try.b182) Try.follow Try.func182 (by kernel_rfl) (by kernel_rfl) (by kernel_rfl) (by kernel_rfl) _ (Nat.le_of_ble_eq_true rfl) (by kernel_rfl) _ (Try.h182 x.1 x.2) (Try.g182) y h
  flat := true
  hflat := fun _ _ => flatE rfl
abbrev Try.Clo58 : Type := Clo Try.prog (GVal × GVal) Bool [.agg (List.replicate 5 none), .agg (List.replicate 5 none)] (fun x => [.val (.agg ((GVal.cs x.1).map R.c)), .val (.agg ((GVal.cs x.2).map R.c))]) (fun y => [.one (.c (.bool y))])
noncomputable def Try.clo58 (c : Try.Clo58) := Clo.mir c true (fun _ _ => flatE rfl)
/-! ### 183 slices.EqualFunc[[]workflow/api.Value,[]workflow/api.Value,workflow/api.Value,workflow/api.Value] -/
inductive Try.J183 where
  | s0 (s2_t1 : List GVal) (eq_t2 : Try.Clo58) (t15 : List GVal) (t16 : Int) (t17 : Int)
noncomputable def Try.b183 : Code := Try.f183.body.getD .skip
noncomputable def Try.x183 : Cx Try.J183 Bool where
  nt := 32
  rvs := [.tmp 6]
  mh := []
  res := fun y => [.one (.c (.bool y))]
  outs := fun y => []
  path := fun
    | .s0 _ _ _ _ _ => [0, 1, 0, 1, 1]
  sig := fun
    | .s0 _ _ _ _ _ => [1, 2, 15, 16, 17]
  snap := fun
    | .s0 s2_t1 eq_t2 t15 t16 t17 => ⟨[(1, .one (.c (.sl (E.GVal.L s2_t1)))), (2, .one (.c (.fn eq_t2.f eq_t2.caps))), (15, .one (.c (.sl (E.GVal.L t15)))), (16, .one (.c (.int .i64 t16))), (17, .one (.c (.int .i64 t17)))], []⟩
noncomputable def Try.a183 (s1_0 : List GVal) (s2_1 : List GVal) (eq_2 : Try.Clo58) : Cert Try.prog Try.J183 Bool :=
    .len E.GVal s1_0 <|
    .len E.GVal s2_1 <|
    .ite 14 ((s1_0.length : Int) != (s2_1.length : Int))
    (.ret false)
    (.len E.GVal s1_0 <|
    .jump (.s0 s2_1 eq_2 s1_0 (s1_0.length : Int) 0) [])
noncomputable def Try.c183 : Try.J183 → Cert Try.prog Try.J183 Bool
  | .s0 s2_t1 eq_t2 t15 t16 t17 =>
    .ite 18 (decide (t17 < t16))
    (.elem E.GVal t15 t17 fun a1 =>
    .elem E.GVal s2_t1 t17 fun a2 =>
    .call (Try.clo58 eq_t2) (a1, a2) fun r3 =>
    .ite 30 (!r3)
    (.ret false)
    (.jump (.s0 s2_t1 eq_t2 t15 t16 (IntKind.i64.wrap (t17 + 1))) []))
    (.ret true)
theorem Try.h183 (s1_0 : List GVal) (s2_1 : List GVal) (eq_2 : Try.Clo58) : execC Try.prog Try.x183 Try.b183 [] (topC Try.prog Try.x183) (Try.a183 s1_0 s2_1 eq_2) (ES.init [.val (.one (.c (.sl (E.GVal.L s1_0)))), .val (.one (.c (.sl (E.GVal.L s2_1)))), .val (.one (.c (.fn eq_2.f eq_2.caps)))]) :=
  of_triv (rs := Try.x183.rs) (snap := Try.x183.snap) (c := Try.a183 s1_0 s2_1 eq_2) (by kernel_rfl)
theorem Try.g183 : ∀ j, chkAt Try.prog Try.x183 Try.b183 (Try.x183.path j) (Try.c183 j) (Try.x183.snap j).es
  | .s0 s2_t1 eq_t2 t15 t16 t17 => of_triv (rs := Try.x183.rs) (snap := Try.x183.snap) (c := Try.c183 (.s0 s2_t1 eq_t2 t15 t16 t17)) (by kernel_rfl)
noncomputable def Try.m183 : Mir Try.prog 183 ((List GVal) × (List GVal) × Try.Clo58) Bool where
  fs := [.one none, .one none, .one none]
  ga := fun x => [.val (.one (.c (.sl (E.GVal.L x.1)))), .val (.one (.c (.sl (E.GVal.L x.2.1)))), .val (.one (.c (.fn x.2.2.f x.2.2.caps)))]
  caps := fun x => []
  res := Try.x183.res
  outs := Try.x183.outs
  R := fun x y => Runs (Try.a183 x.1 x.2.1 x.2.2) (KOf (fun j => Ev (Try.c183) j y) y)
  ok := fun x y h => sys_ok (cx := Try.x183) (body := Try.b183) Try.follow Try.func183 (by kernel_rfl) (by kernel_rfl) (by kernel_rfl) (by kernel_rfl) _ (Nat.le_of_ble_eq_true rfl) (by kernel_rfl) _ (Try.h183 x.1 x.2.1 x.2.2) (Try.g183) y h
  flat := true
  hflat := fun _ _ => flatE rfl
/-! ### 115 workflow/value.Same -/
noncomputable def Try.b115 : Code := Try.f115.body.getD .skip
noncomputable def Try.x115 : Cx Empty Bool where
  nt := 38
  rvs := [.tmp 4]
  mh := []
  res := fun y => [.one (.c (.bool y))]
  outs := fun y => []
  path := fun j => nomatch j
  sig := fun j => nomatch j
  snap := fun j => nomatch j
noncomputable def Try.a115 (R115 : (GVal × GVal) → Bool → Prop) (ok115 : Try.O115 R115) (a_0 : GVal) (b_1 : GVal) : Cert Try.prog Empty Bool :=
    .ite 10 (a_0.Kind == b_1.Kind)
    (.ite 17 (a_0.Num == b_1.Num)
    (.ite 24 (strEq a_0.Text b_1.Text)
    (.call Try.m182 (a_0.Keys, b_1.Keys) fun r1 =>
    .ite 31 r1
    (.call Try.m183 (a_0.Items, b_1.Items, (⟨115, [], fun a b => (Try.w115 R115 ok115).R (a.1, a.2) b, fun a b h => (Try.w115 R115 ok115).ok (a.1, a.2) b h⟩ : Try.Clo58)) fun r2 =>
    .ret r2)
    (.ret false))
    (.ret false))
    (.ret false))
    (.ret false)
noncomputable def Try.c115 (R115 : (GVal × GVal) → Bool → Prop) (ok115 : Try.O115 R115) : Empty → Cert Try.prog Empty Bool := fun j => nomatch j
theorem Try.h115 (R115 : (GVal × GVal) → Bool → Prop) (ok115 : Try.O115 R115) (a_0 : GVal) (b_1 : GVal) : execC Try.prog Try.x115 Try.b115 [] (topC Try.prog Try.x115) (Try.a115 R115 ok115 a_0 b_1) (ES.init [.val (.agg ((GVal.cs a_0).map R.c)), .val (.agg ((GVal.cs b_1).map R.c))]) :=
  of_triv (rs := Try.x115.rs) (snap := Try.x115.snap) (c := Try.a115 R115 ok115 a_0 b_1) (by kernel_rfl)
theorem Try.g115 (R115 : (GVal × GVal) → Bool → Prop) (ok115 : Try.O115 R115) : ∀ j, chkAt Try.prog Try.x115 Try.b115 (Try.x115.path j) ((Try.c115 R115 ok115) j) (Try.x115.snap j).es := fun j => nomatch j
noncomputable def Try.n115 : Nat → {Q : (GVal × GVal) → Bool → Prop // Try.O115 Q}
  | 0 => ⟨fun _ _ => False, fun _ _ h => h.elim⟩
  | n + 1 => ⟨fun x y => Runs (Try.a115 (Try.n115 n).1 (Try.n115 n).2 x.1 x.2) (KOf (fun j => Ev (Try.c115 (Try.n115 n).1 (Try.n115 n).2) j y) y), fun x y h => sys_ok (cx := Try.x115) (body := Try.b115) Try.follow Try.func115 (by kernel_rfl) (by kernel_rfl) (by kernel_rfl) (by kernel_rfl) _ (Nat.le_of_ble_eq_true rfl) (by kernel_rfl) _ (Try.h115 (Try.n115 n).1 (Try.n115 n).2 x.1 x.2) (Try.g115 (Try.n115 n).1 (Try.n115 n).2) y h⟩
noncomputable def Try.m115 : Mir Try.prog 115 (GVal × GVal) Bool := Try.w115 (fun x y => ∃ n, (Try.n115 n).1 x y) (fun x y h => (Try.n115 h.choose).2 x y h.choose_spec)
/-! ### 155 workflow/outside.find -/
inductive Try.J155 where
  | s0 (name_t1 : ByteArray) (t4 : GRule) (t7 : List GRule) (t8 : Int) (t9 : Int)
noncomputable def Try.b155 : Code := Try.f155.body.getD .skip
noncomputable def Try.x155 : Cx Try.J155 GRule where
  nt := 21
  rvs := [.cell 4 118]
  mh := []
  res := fun y => [.agg ((GRule.cs y).map R.c)]
  outs := fun y => []
  path := fun
    | .s0 _ _ _ _ _ => [0, 1, 0, 1]
  sig := fun
    | .s0 _ _ _ _ _ => [1, 4, 7, 8, 9]
  snap := fun
    | .s0 name_t1 t4 t7 t8 t9 => ⟨[(1, .one (.c (.str name_t1))), (4, .one (.ptr 0 1 0)), (7, .one (.c (.sl (E.GRule.L t7)))), (8, .one (.c (.int .i64 t8))), (9, .one (.c (.int .i64 t9)))], [((0, 1), .box ((((GRule.cs t4).map A.c).set 8 .nil).set 9 .nil))]⟩
noncomputable def Try.a155 (l_0 : List GRule) (name_1 : ByteArray) : Cert Try.prog Try.J155 GRule :=
    .len E.GRule l_0 <|
    .jump (.s0 name_1 (GRule.mk (⟨#[]⟩ : ByteArray) 0 (⟨#[]⟩ : ByteArray) 0 false (GVal.mk 0 0 (⟨#[]⟩ : ByteArray) [] [])) l_0 (l_0.length : Int) 0) [(4000, 1)]
noncomputable def Try.c155 : Try.J155 → Cert Try.prog Try.J155 GRule
  | .s0 name_t1 t4 t7 t8 t9 =>
    .ite 10 (decide (t9 < t8))
    (.elem E.GRule t7 t9 fun a1 =>
    .ite 16 (strEq a1.Name name_t1)
    (.ret a1)
    (.jump (.s0 name_t1 (GRule.mk t4.Name t4.Fails t4.Failure t4.Ticks t4.Echo (GVal.mk t4.Result.Kind t4.Result.Num t4.Result.Text [] [])) t7 t8 (IntKind.i64.wrap (t9 + 1))) [(0, 1)]))
    (.ret (GRule.mk name_t1 0 (⟨#[]⟩ : ByteArray) 1 true (GVal.mk 0 0 (⟨#[]⟩ : ByteArray) [] [])))
theorem Try.h155 (l_0 : List GRule) (name_1 : ByteArray) : execC Try.prog Try.x155 Try.b155 [] (topC Try.prog Try.x155) (Try.a155 l_0 name_1) (ES.init [.val (.one (.c (.sl (E.GRule.L l_0)))), .val (.one (.c (.str name_1)))]) :=
  of_triv (rs := Try.x155.rs) (snap := Try.x155.snap) (c := Try.a155 l_0 name_1) (by kernel_rfl)
theorem Try.g155 : ∀ j, chkAt Try.prog Try.x155 Try.b155 (Try.x155.path j) (Try.c155 j) (Try.x155.snap j).es
  | .s0 name_t1 t4 t7 t8 t9 => of_triv (rs := Try.x155.rs) (snap := Try.x155.snap) (c := Try.c155 (.s0 name_t1 t4 t7 t8 t9)) (by kernel_rfl)
noncomputable def Try.m155 : Mir Try.prog 155 ((List GRule) × ByteArray) GRule where
  fs := [.one none, .one none]
  ga := fun x => [.val (.one (.c (.sl (E.GRule.L x.1)))), .val (.one (.c (.str x.2)))]
  caps := fun x => []
  res := Try.x155.res
  outs := Try.x155.outs
  R := fun x y => Runs (Try.a155 x.1 x.2) (KOf (fun j => Ev (Try.c155) j y) y)
  ok := fun x y h => sys_ok (cx := Try.x155) (body := Try.b155) Try.follow Try.func155 (by kernel_rfl) (by kernel_rfl) (by kernel_rfl) (by kernel_rfl) _ (Nat.le_of_ble_eq_true rfl) (by kernel_rfl) _ (Try.h155 x.1 x.2) (Try.g155) y h
  flat := false
  hflat := fun h => nomatch h
/-! ### 156 (workflow/outside.Rule).result -/
noncomputable def Try.b156 : Code := Try.f156.body.getD .skip
noncomputable def Try.x156 : Cx Empty GVal where
  nt := 12
  rvs := [.cell 4 25]
  mh := []
  res := fun y => [.agg ((((GVal.cs y).map R.c).set 3 (.own 25 5 (E.GVal.L y.Items))).set 4 (.own 9 1 (E.str.L y.Keys)))]
  outs := fun y => []
  path := fun j => nomatch j
  sig := fun j => nomatch j
  snap := fun j => nomatch j
noncomputable def Try.a156 (x_0 : GRule) (arg_1 : GVal) : Cert Try.prog Empty GVal :=
    .ite 6 x_0.Echo
    (.call Try.m153 arg_1 fun r1 =>
    .ret r1)
    (.call Try.m153 x_0.Result fun r2 =>
    .ret r2)
noncomputable def Try.c156 : Empty → Cert Try.prog Empty GVal := fun j => nomatch j
theorem Try.h156 (x_0 : GRule) (arg_1 : GVal) : execC Try.prog Try.x156 Try.b156 [] (topC Try.prog Try.x156) (Try.a156 x_0 arg_1) (ES.init [.val (.agg ((GRule.cs x_0).map R.c)), .val (.agg ((GVal.cs arg_1).map R.c))]) :=
  of_triv (rs := Try.x156.rs) (snap := Try.x156.snap) (c := Try.a156 x_0 arg_1) (by kernel_rfl)
theorem Try.g156 : ∀ j, chkAt Try.prog Try.x156 Try.b156 (Try.x156.path j) (Try.c156 j) (Try.x156.snap j).es := fun j => nomatch j
noncomputable def Try.m156 : Mir Try.prog 156 (GRule × GVal) GVal where
  fs := [.agg (List.replicate 10 none), .agg (List.replicate 5 none)]
  ga := fun x => [.val (.agg ((GRule.cs x.1).map R.c)), .val (.agg ((GVal.cs x.2).map R.c))]
  caps := fun x => []
  res := Try.x156.res
  outs := Try.x156.outs
  R := fun x y => Runs (Try.a156 x.1 x.2) (KOf (fun j => Ev (Try.c156) j y) y)
  ok := fun x y h => sys_ok (cx := Try.x156) (body := Try.b156) Try.follow Try.func156 (by kernel_rfl) (by kernel_rfl) (by kernel_rfl) (by kernel_rfl) _ (Nat.le_of_ble_eq_true rfl) (by kernel_rfl) _ (Try.h156 x.1 x.2) (Try.g156) y h
  flat := false
  hflat := fun h => nomatch h
/-! ### 81 workflow/outside.Of -/
inductive Try.J81 where
  | s0 (arg_t6 : GVal) (t8 : GOOutcome) (x_t9 : GRule) (t13 : Bool)
noncomputable def Try.b81 : Code := Try.f81.body.getD .skip
noncomputable def Try.x81 : Cx Try.J81 GOOutcome where
  nt := 39
  rvs := [.cell 8 104]
  mh := []
  res := fun y => [.agg ((((GOOutcome.cs y).map R.c).set 6 (.own 25 5 (E.GVal.L y.Data.Items))).set 7 (.own 9 1 (E.str.L y.Data.Keys)))]
  outs := fun y => []
  path := fun
    | .s0 _ _ _ _ => [1, 0, 0, 1, 1]
  sig := fun
    | .s0 _ _ _ _ => [6, 8, 9, 13]
  snap := fun
    | .s0 arg_t6 t8 x_t9 t13 => ⟨[(6, .one (.ptr 0 1 0)), (8, .one (.ptr 1 1 0)), (9, .one (.ptr 2 1 0)), (13, .one (.c (.bool t13)))], [((0, 1), .box ((GVal.cs arg_t6).map A.c)), ((1, 1), .box ((((GOOutcome.cs t8).map A.c).set 6 .nil).set 7 .nil)), ((2, 1), .box ((GRule.cs x_t9).map A.c))]⟩
noncomputable def Try.a81 (l_0 : List GRule) (name_1 : ByteArray) (arg_2 : GVal) (attempt_3 : Int) : Cert Try.prog Try.J81 GOOutcome :=
    .call Try.m155 (l_0, name_1) fun r1 =>
    .ite 17 (decide (r1.Fails < 1))
    (.jump (.s0 arg_2 (GOOutcome.mk 0 0 (⟨#[]⟩ : ByteArray) (GVal.mk 0 0 (⟨#[]⟩ : ByteArray) [] [])) r1 true) [(6000, 1), (8000, 1), (9000, 1)])
    (.jump (.s0 arg_2 (GOOutcome.mk 0 0 (⟨#[]⟩ : ByteArray) (GVal.mk 0 0 (⟨#[]⟩ : ByteArray) [] [])) r1 (decide (r1.Fails < attempt_3))) [(6000, 1), (8000, 1), (9000, 1)])
noncomputable def Try.c81 : Try.J81 → Cert Try.prog Try.J81 GOOutcome
  | .s0 arg_t6 t8 x_t9 t13 =>
    .ite 13 t13
    (.call Try.m156 (x_t9, arg_t6) fun r2 =>
    .ret (GOOutcome.mk 1 x_t9.Ticks (⟨#[]⟩ : ByteArray) r2))
    (.ite 29 (strEq x_t9.Failure (⟨#[104, 97, 110, 103]⟩ : ByteArray))
    (.ret (GOOutcome.mk 3 0 (⟨#[]⟩ : ByteArray) (GVal.mk 0 0 (⟨#[]⟩ : ByteArray) [] [])))
    (.ret (GOOutcome.mk 2 x_t9.Ticks x_t9.Failure (GVal.mk 0 0 (⟨#[]⟩ : ByteArray) [] []))))
theorem Try.h81 (l_0 : List GRule) (name_1 : ByteArray) (arg_2 : GVal) (attempt_3 : Int) : execC Try.prog Try.x81 Try.b81 [] (topC Try.prog Try.x81) (Try.a81 l_0 name_1 arg_2 attempt_3) (ES.init [.val (.one (.c (.sl (E.GRule.L l_0)))), .val (.one (.c (.str name_1))), .val (.agg ((GVal.cs arg_2).map R.c)), .val (.one (.c (.int .i64 attempt_3)))]) :=
  of_triv (rs := Try.x81.rs) (snap := Try.x81.snap) (c := Try.a81 l_0 name_1 arg_2 attempt_3) (by kernel_rfl)
theorem Try.g81 : ∀ j, chkAt Try.prog Try.x81 Try.b81 (Try.x81.path j) (Try.c81 j) (Try.x81.snap j).es
  | .s0 arg_t6 t8 x_t9 t13 => of_triv (rs := Try.x81.rs) (snap := Try.x81.snap) (c := Try.c81 (.s0 arg_t6 t8 x_t9 t13)) (by kernel_rfl)
noncomputable def Try.m81 : Mir Try.prog 81 ((List GRule) × ByteArray × GVal × Int) GOOutcome where
  fs := [.one none, .one none, .agg (List.replicate 5 none), .one none]
  ga := fun x => [.val (.one (.c (.sl (E.GRule.L x.1)))), .val (.one (.c (.str x.2.1))), .val (.agg ((GVal.cs x.2.2.1).map R.c)), .val (.one (.c (.int .i64 x.2.2.2)))]
  caps := fun x => []
  res := Try.x81.res
  outs := Try.x81.outs
  R := fun x y => Runs (Try.a81 x.1 x.2.1 x.2.2.1 x.2.2.2) (KOf (fun j => Ev (Try.c81) j y) y)
  ok := fun x y h => sys_ok (cx := Try.x81) (body := Try.b81) Try.follow Try.func81 (by kernel_rfl) (by kernel_rfl) (by kernel_rfl) (by kernel_rfl) _ (Nat.le_of_ble_eq_true rfl) (by kernel_rfl) _ (Try.h81 x.1 x.2.1 x.2.2.1 x.2.2.2) (Try.g81) y h
  flat := false
  hflat := fun h => nomatch h
/-! ### 84 workflow/outside.Final -/
noncomputable def Try.b84 : Code := Try.f84.body.getD .skip
noncomputable def Try.x84 : Cx Empty (GVal × Bool) where
  nt := 29
  rvs := [.cell 6 25, .tmp 7]
  mh := []
  res := fun y => [.agg ((((GVal.cs y.1).map R.c).set 3 (.own 25 5 (E.GVal.L y.1.Items))).set 4 (.own 9 1 (E.str.L y.1.Keys))), .one (.c (.bool y.2))]
  outs := fun y => []
  path := fun j => nomatch j
  sig := fun j => nomatch j
  snap := fun j => nomatch j
noncomputable def Try.a84 (l_0 : List GRule) (name_1 : ByteArray) (arg_2 : GVal) : Cert Try.prog Empty (GVal × Bool) :=
    .call Try.m155 (l_0, name_1) fun r1 =>
    .ite 15 (decide (0 < r1.Fails))
    (.ite 19 (decide (1000 ≤ r1.Fails))
    (.ret ((GVal.mk 0 0 (⟨#[]⟩ : ByteArray) [] []), false))
    (.ite 24 (strEq r1.Failure (⟨#[104, 97, 110, 103]⟩ : ByteArray))
    (.ret ((GVal.mk 0 0 (⟨#[]⟩ : ByteArray) [] []), false))
    (.call Try.m156 (r1, arg_2) fun r2 =>
    .ret (r2, true))))
    (.call Try.m156 (r1, arg_2) fun r3 =>
    .ret (r3, true))
noncomputable def Try.c84 : Empty → Cert Try.prog Empty (GVal × Bool) := fun j => nomatch j
theorem Try.h84 (l_0 : List GRule) (name_1 : ByteArray) (arg_2 : GVal) : execC Try.prog Try.x84 Try.b84 [] (topC Try.prog Try.x84) (Try.a84 l_0 name_1 arg_2) (ES.init [.val (.one (.c (.sl (E.GRule.L l_0)))), .val (.one (.c (.str name_1))), .val (.agg ((GVal.cs arg_2).map R.c))]) :=
  of_triv (rs := Try.x84.rs) (snap := Try.x84.snap) (c := Try.a84 l_0 name_1 arg_2) (by kernel_rfl)
theorem Try.g84 : ∀ j, chkAt Try.prog Try.x84 Try.b84 (Try.x84.path j) (Try.c84 j) (Try.x84.snap j).es := fun j => nomatch j
noncomputable def Try.m84 : Mir Try.prog 84 ((List GRule) × ByteArray × GVal) (GVal × Bool) where
  fs := [.one none, .one none, .agg (List.replicate 5 none)]
  ga := fun x => [.val (.one (.c (.sl (E.GRule.L x.1)))), .val (.one (.c (.str x.2.1))), .val (.agg ((GVal.cs x.2.2).map R.c))]
  caps := fun x => []
  res := Try.x84.res
  outs := Try.x84.outs
  R := fun x y => Runs (Try.a84 x.1 x.2.1 x.2.2) (KOf (fun j => Ev (Try.c84) j y) y)
  ok := fun x y h => sys_ok (cx := Try.x84) (body := Try.b84) Try.follow Try.func84 (by kernel_rfl) (by kernel_rfl) (by kernel_rfl) (by kernel_rfl) _ (Nat.le_of_ble_eq_true rfl) (by kernel_rfl) _ (Try.h84 x.1 x.2.1 x.2.2) (Try.g84) y h
  flat := false
  hflat := fun h => nomatch h
/-! ### 227 workflow/outside.letter -/
noncomputable def Try.b227 : Code := Try.f227.body.getD .skip
noncomputable def Try.x227 : Cx Empty Bool where
  nt := 21
  rvs := [.tmp 2]
  mh := []
  res := fun y => [.one (.c (.bool y))]
  outs := fun y => []
  path := fun j => nomatch j
  sig := fun j => nomatch j
  snap := fun j => nomatch j
noncomputable def Try.a227 (c_0 : Int) : Cert Try.prog Empty Bool :=
    .ite 5 (decide (97 ≤ c_0))
    (.ite 9 (decide (c_0 ≤ 122))
    (.ret true)
    (.ite 12 (decide (65 ≤ c_0))
    (.ite 17 (decide (c_0 ≤ 90))
    (.ret true)
    (.ret (c_0 == 95)))
    (.ret (c_0 == 95))))
    (.ite 12 (decide (65 ≤ c_0))
    (.ite 17 (decide (c_0 ≤ 90))
    (.ret true)
    (.ret (c_0 == 95)))
    (.ret (c_0 == 95)))
noncomputable def Try.c227 : Empty → Cert Try.prog Empty Bool := fun j => nomatch j
theorem Try.h227 (c_0 : Int) : execC Try.prog Try.x227 Try.b227 [] (topC Try.prog Try.x227) (Try.a227 c_0) (ES.init [.val (.one (.c (.int .u8 c_0)))]) :=
  of_triv (rs := Try.x227.rs) (snap := Try.x227.snap) (c := Try.a227 c_0) (by kernel_rfl)
theorem Try.g227 : ∀ j, chkAt Try.prog Try.x227 Try.b227 (Try.x227.path j) (Try.c227 j) (Try.x227.snap j).es := fun j => nomatch j
noncomputable def Try.m227 : Mir Try.prog 227 Int Bool where
  fs := [.one none]
  ga := fun x => [.val (.one (.c (.int .u8 x)))]
  caps := fun x => []
  res := Try.x227.res
  outs := Try.x227.outs
  R := fun x y => Runs (Try.a227 x) (KOf (fun j => Ev (Try.c227) j y) y)
  ok := fun x y h => sys_ok (cx := Try.x227) (body := Try.b227) Try.follow Try.func227 (by kernel_rfl) (by kernel_rfl) (by kernel_rfl) (by kernel_rfl) _ (Nat.le_of_ble_eq_true rfl) (by kernel_rfl) _ (Try.h227 x) (Try.g227) y h
  flat := true
  hflat := fun _ _ => flatE rfl
/-! ### 205 workflow/outside.isName -/
inductive Try.J205 where
  | s0 (s_t0 : ByteArray) (t5 : Int) (t6 : Int)
noncomputable def Try.b205 : Code := Try.f205.body.getD .skip
noncomputable def Try.x205 : Cx Try.J205 Bool where
  nt := 38
  rvs := [.tmp 2]
  mh := []
  res := fun y => [.one (.c (.bool y))]
  outs := fun y => []
  path := fun
    | .s0 _ _ _ => [0, 1, 0, 1]
  sig := fun
    | .s0 _ _ _ => [0, 5, 6]
  snap := fun
    | .s0 s_t0 t5 t6 => ⟨[(0, .one (.c (.str s_t0))), (5, .one (.c (.int .i64 t5))), (6, .one (.c (.int .i64 t6)))], []⟩
noncomputable def Try.a205 (s_0 : ByteArray) : Cert Try.prog Try.J205 Bool :=
    .jump (.s0 s_0 (s_0.size : Int) 0) []
noncomputable def Try.c205 : Try.J205 → Cert Try.prog Try.J205 Bool
  | .s0 s_t0 t5 t6 =>
    .ite 7 (decide (t6 < t5))
    (.byte s_t0 t6 <|
    .call Try.m227 (byteAt s_t0 t6.toNat) fun r1 =>
    .ite 14 (!r1)
    (.ite 17 (t6 == 0)
    (.ret false)
    (.byte s_t0 t6 <|
    .ite 23 (decide ((byteAt s_t0 t6.toNat) < 48))
    (.ret false)
    (.byte s_t0 t6 <|
    .ite 29 (decide (57 < (byteAt s_t0 t6.toNat)))
    (.ret false)
    (.jump (.s0 s_t0 t5 (IntKind.i64.wrap (t6 + 1))) []))))
    (.jump (.s0 s_t0 t5 (IntKind.i64.wrap (t6 + 1))) []))
    (.ite 33 (!strEq s_t0 (⟨#[]⟩ : ByteArray))
    (.ret (decide ((s_t0.size : Int) ≤ 64)))
    (.ret false))
theorem Try.h205 (s_0 : ByteArray) : execC Try.prog Try.x205 Try.b205 [] (topC Try.prog Try.x205) (Try.a205 s_0) (ES.init [.val (.one (.c (.str s_0)))]) :=
  of_triv (rs := Try.x205.rs) (snap := Try.x205.snap) (c := Try.a205 s_0) (by kernel_rfl)
theorem Try.g205 : ∀ j, chkAt Try.prog Try.x205 Try.b205 (Try.x205.path j) (Try.c205 j) (Try.x205.snap j).es
  | .s0 s_t0 t5 t6 => of_triv (rs := Try.x205.rs) (snap := Try.x205.snap) (c := Try.c205 (.s0 s_t0 t5 t6)) (by kernel_rfl)
noncomputable def Try.m205 : Mir Try.prog 205 ByteArray Bool where
  fs := [.one none]
  ga := fun x => [.val (.one (.c (.str x)))]
  caps := fun x => []
  res := Try.x205.res
  outs := Try.x205.outs
  R := fun x y => Runs (Try.a205 x) (KOf (fun j => Ev (Try.c205) j y) y)
  ok := fun x y h => sys_ok (cx := Try.x205) (body := Try.b205) Try.follow Try.func205 (by kernel_rfl) (by kernel_rfl) (by kernel_rfl) (by kernel_rfl) _ (Nat.le_of_ble_eq_true rfl) (by kernel_rfl) _ (Try.h205 x) (Try.g205) y h
  flat := true
  hflat := fun _ _ => flatE rfl
/-! ### 204 workflow/outside.identifier -/
inductive Try.J204 where
  | s0 (s_t0 : ByteArray) (t5 : Int) (t6 : Int)
noncomputable def Try.b204 : Code := Try.f204.body.getD .skip
noncomputable def Try.x204 : Cx Try.J204 Bool where
  nt := 39
  rvs := [.tmp 2]
  mh := []
  res := fun y => [.one (.c (.bool y))]
  outs := fun y => []
  path := fun
    | .s0 _ _ _ => [0, 1, 0, 1]
  sig := fun
    | .s0 _ _ _ => [0, 5, 6]
  snap := fun
    | .s0 s_t0 t5 t6 => ⟨[(0, .one (.c (.str s_t0))), (5, .one (.c (.int .i64 t5))), (6, .one (.c (.int .i64 t6)))], []⟩
noncomputable def Try.a204 (s_0 : ByteArray) : Cert Try.prog Try.J204 Bool :=
    .jump (.s0 s_0 (s_0.size : Int) 0) []
noncomputable def Try.c204 : Try.J204 → Cert Try.prog Try.J204 Bool
  | .s0 s_t0 t5 t6 =>
    .ite 7 (decide (t6 < t5))
    (.byte s_t0 t6 <|
    .ite 13 (decide ((byteAt s_t0 t6.toNat) < 33))
    (.ret false)
    (.byte s_t0 t6 <|
    .ite 19 (decide (126 < (byteAt s_t0 t6.toNat)))
    (.ret false)
    (.byte s_t0 t6 <|
    .ite 25 ((byteAt s_t0 t6.toNat) == 47)
    (.ret false)
    (.byte s_t0 t6 <|
    .ite 30 ((byteAt s_t0 t6.toNat) == 34)
    (.ret false)
    (.jump (.s0 s_t0 t5 (IntKind.i64.wrap (t6 + 1))) [])))))
    (.ite 34 (!strEq s_t0 (⟨#[]⟩ : ByteArray))
    (.ret (decide ((s_t0.size : Int) ≤ 64)))
    (.ret false))
theorem Try.h204 (s_0 : ByteArray) : execC Try.prog Try.x204 Try.b204 [] (topC Try.prog Try.x204) (Try.a204 s_0) (ES.init [.val (.one (.c (.str s_0)))]) :=
  of_triv (rs := Try.x204.rs) (snap := Try.x204.snap) (c := Try.a204 s_0) (by kernel_rfl)
theorem Try.g204 : ∀ j, chkAt Try.prog Try.x204 Try.b204 (Try.x204.path j) (Try.c204 j) (Try.x204.snap j).es
  | .s0 s_t0 t5 t6 => of_triv (rs := Try.x204.rs) (snap := Try.x204.snap) (c := Try.c204 (.s0 s_t0 t5 t6)) (by kernel_rfl)
noncomputable def Try.m204 : Mir Try.prog 204 ByteArray Bool where
  fs := [.one none]
  ga := fun x => [.val (.one (.c (.str x)))]
  caps := fun x => []
  res := Try.x204.res
  outs := Try.x204.outs
  R := fun x y => Runs (Try.a204 x) (KOf (fun j => Ev (Try.c204) j y) y)
  ok := fun x y h => sys_ok (cx := Try.x204) (body := Try.b204) Try.follow Try.func204 (by kernel_rfl) (by kernel_rfl) (by kernel_rfl) (by kernel_rfl) _ (Nat.le_of_ble_eq_true rfl) (by kernel_rfl) _ (Try.h204 x) (Try.g204) y h
  flat := true
  hflat := fun _ _ => flatE rfl
/-! ### 176 workflow/value.Null -/
noncomputable def Try.b176 : Code := Try.f176.body.getD .skip
noncomputable def Try.x176 : Cx Empty GVal where
  nt := 2
  rvs := [.cell 0 25]
  mh := []
  res := fun y => [.agg ((GVal.cs y).map R.c)]
  outs := fun y => []
  path := fun j => nomatch j
  sig := fun j => nomatch j
  snap := fun j => nomatch j
noncomputable def Try.a176 : Cert Try.prog Empty GVal :=
    .ret (GVal.mk 0 0 (⟨#[]⟩ : ByteArray) [] [])
noncomputable def Try.c176 : Empty → Cert Try.prog Empty GVal := fun j => nomatch j
theorem Try.h176 : execC Try.prog Try.x176 Try.b176 [] (topC Try.prog Try.x176) (Try.a176) (ES.init []) :=
  of_triv (rs := Try.x176.rs) (snap := Try.x176.snap) (c := Try.a176) (by kernel_rfl)
theorem Try.g176 : ∀ j, chkAt Try.prog Try.x176 Try.b176 (Try.x176.path j) (Try.c176 j) (Try.x176.snap j).es := fun j => nomatch j
noncomputable def Try.m176 : Mir Try.prog 176 Unit GVal where
  fs := []
  ga := fun x => []
  caps := fun x => []
  res := Try.x176.res
  outs := Try.x176.outs
  R := fun x y => Runs (Try.a176) (KOf (fun j => Ev (Try.c176) j y) y)
  ok := fun x y h => sys_ok (cx := Try.x176) (body := Try.b176) Try.follow Try.func176 (by kernel_rfl) (by kernel_rfl) (by kernel_rfl) (by kernel_rfl) _ (Nat.le_of_ble_eq_true rfl) (by kernel_rfl) _ (Try.h176) (Try.g176) y h
  flat := false
  hflat := fun h => nomatch h
/-! ### 159 (workflow/outside.Rule).right -/
inductive Try.J159 where
  | s0 (x_t1 : GRule) (failure_t3 : Bool)
  | s1 (x_t1 : GRule) (failure_t3 : Bool) (result_t4 : Bool)
noncomputable def Try.b159 : Code := Try.f159.body.getD .skip
noncomputable def Try.x159 : Cx Try.J159 Bool where
  nt := 61
  rvs := [.tmp 2]
  mh := []
  res := fun y => [.one (.c (.bool y))]
  outs := fun y => []
  path := fun
    | .s0 _ _ => [1, 1]
    | .s1 _ _ _ => [1, 1, 1]
  sig := fun
    | .s0 _ _ => [1, 3]
    | .s1 _ _ _ => [1, 3, 4]
  snap := fun
    | .s0 x_t1 failure_t3 => ⟨[(1, .one (.ptr 0 1 0)), (3, .one (.c (.bool failure_t3)))], [((0, 1), .box ((GRule.cs x_t1).map A.c))]⟩
    | .s1 x_t1 failure_t3 result_t4 => ⟨[(1, .one (.ptr 0 1 0)), (3, .one (.c (.bool failure_t3))), (4, .one (.c (.bool result_t4)))], [((0, 1), .box ((GRule.cs x_t1).map A.c))]⟩
noncomputable def Try.a159 (x_0 : GRule) : Cert Try.prog Try.J159 Bool :=
    .ite 8 (x_0.Fails == 0)
    (.ite 13 (strEq x_0.Failure (⟨#[]⟩ : ByteArray))
    (.jump (.s0 x_0 true) [(1000, 1)])
    (.ite 17 (decide (0 < x_0.Fails))
    (.ite 22 (decide (x_0.Fails ≤ 1000))
    (.call Try.m204 x_0.Failure fun r1 =>
    .jump (.s0 x_0 r1) [(1000, 1)])
    (.jump (.s0 x_0 false) [(1000, 1)]))
    (.jump (.s0 x_0 false) [(1000, 1)])))
    (.ite 17 (decide (0 < x_0.Fails))
    (.ite 22 (decide (x_0.Fails ≤ 1000))
    (.call Try.m204 x_0.Failure fun r2 =>
    .jump (.s0 x_0 r2) [(1000, 1)])
    (.jump (.s0 x_0 false) [(1000, 1)]))
    (.jump (.s0 x_0 false) [(1000, 1)]))
noncomputable def Try.c159 : Try.J159 → Cert Try.prog Try.J159 Bool
  | .s0 x_t1 failure_t3 =>
    .call (Try.m140 Try.m217.R Try.m217.ok Try.m218.R Try.m218.ok Try.m219.R Try.m219.ok Try.m196.R Try.m196.ok) x_t1.Result fun r3 =>
    .ite 31 r3
    (.ite 35 (!x_t1.Echo)
    (.jump (.s1 x_t1 failure_t3 true) [(0, 1)])
    (.call Try.m176 () fun r4 =>
    .call Try.m115 (x_t1.Result, r4) fun r5 =>
    .jump (.s1 x_t1 failure_t3 r5) [(0, 1)]))
    (.jump (.s1 x_t1 failure_t3 false) [(0, 1)])
  | .s1 x_t1 failure_t3 result_t4 =>
    .call Try.m205 x_t1.Name fun r6 =>
    .ite 45 r6
    (.ite 48 failure_t3
    (.ite 53 (decide (0 ≤ x_t1.Ticks))
    (.ite 58 (decide (x_t1.Ticks ≤ 1099511627776))
    (.ret result_t4)
    (.ret false))
    (.ret false))
    (.ret false))
    (.ret false)
theorem Try.h159 (x_0 : GRule) : execC Try.prog Try.x159 Try.b159 [] (topC Try.prog Try.x159) (Try.a159 x_0) (ES.init [.val (.agg ((GRule.cs x_0).map R.c))]) :=
  of_triv (rs := Try.x159.rs) (snap := Try.x159.snap) (c := Try.a159 x_0) (by kernel_rfl)
theorem Try.g159 : ∀ j, chkAt Try.prog Try.x159 Try.b159 (Try.x159.path j) (Try.c159 j) (Try.x159.snap j).es
  | .s0 x_t1 failure_t3 => of_triv (rs := Try.x159.rs) (snap := Try.x159.snap) (c := Try.c159 (.s0 x_t1 failure_t3)) (by kernel_rfl)
  | .s1 x_t1 failure_t3 result_t4 => of_triv (rs := Try.x159.rs) (snap := Try.x159.snap) (c := Try.c159 (.s1 x_t1 failure_t3 result_t4)) (by kernel_rfl)
noncomputable def Try.m159 : Mir Try.prog 159 GRule Bool where
  fs := [.agg (List.replicate 10 none)]
  ga := fun x => [.val (.agg ((GRule.cs x).map R.c))]
  caps := fun x => []
  res := Try.x159.res
  outs := Try.x159.outs
  R := fun x y => Runs (Try.a159 x) (KOf (fun j => Ev (Try.c159) j y) y)
  ok := fun x y h => sys_ok (cx := Try.x159) (body := Try.b159) Try.follow Try.func159 (by kernel_rfl) (by kernel_rfl) (by kernel_rfl) (by kernel_rfl) _ (Nat.le_of_ble_eq_true rfl) (by kernel_rfl) _ (Try.h159 x) (Try.g159) y h
  flat := true
  hflat := fun _ _ => flatE rfl
/-! ### 86 workflow/outside.Right -/
inductive Try.J86 where
  | s0 (met_t3k : List ByteArray) (met_t3v : List Bool) (t7 : List GRule) (t8 : Int) (t9 : Int)
noncomputable def Try.b86 : Code := Try.f86.body.getD .skip
noncomputable def Try.x86 : Cx Try.J86 Bool where
  nt := 26
  rvs := [.tmp 2]
  mh := []
  res := fun y => [.one (.c (.bool y))]
  outs := fun y => []
  path := fun
    | .s0 _ _ _ _ _ => [0, 1, 0, 1, 1]
  sig := fun
    | .s0 _ _ _ _ _ => [3, 7, 8, 9]
  snap := fun
    | .s0 met_t3k met_t3v t7 t8 t9 => ⟨[(3, .one (.own 0 1)), (7, .one (.c (.sl (E.GRule.L t7)))), (8, .one (.c (.int .i64 t8))), (9, .one (.c (.int .i64 t9)))], [((0, 1), .map false met_t3k (E.bool.L met_t3v))]⟩
noncomputable def Try.a86 (l_0 : List GRule) : Cert Try.prog Try.J86 Bool :=
    .len E.GRule l_0 <|
    .jump (.s0 [] [] l_0 (l_0.length : Int) 0) [(6000, 1)]
noncomputable def Try.c86 : Try.J86 → Cert Try.prog Try.J86 Bool
  | .s0 met_t3k met_t3v t7 t8 t9 =>
    .ite 10 (decide (t9 < t8))
    (.elem E.GRule t7 t9 fun a1 =>
    .mget E.bool met_t3k met_t3v false a1.Name <|
    .ite 17 (mgetT met_t3k met_t3v false a1.Name)
    (.ret false)
    (.call Try.m159 a1 fun r2 =>
    .ite 21 (!r2)
    (.ret false)
    (.mput E.bool met_t3k met_t3v a1.Name true <|
    .jump (.s0 (mputK met_t3k a1.Name) (mputT met_t3k met_t3v a1.Name true) t7 t8 (IntKind.i64.wrap (t9 + 1))) [(0, 1)])))
    (.ret true)
theorem Try.h86 (l_0 : List GRule) : execC Try.prog Try.x86 Try.b86 [] (topC Try.prog Try.x86) (Try.a86 l_0) (ES.init [.val (.one (.c (.sl (E.GRule.L l_0))))]) :=
  of_triv (rs := Try.x86.rs) (snap := Try.x86.snap) (c := Try.a86 l_0) (by kernel_rfl)
theorem Try.g86 : ∀ j, chkAt Try.prog Try.x86 Try.b86 (Try.x86.path j) (Try.c86 j) (Try.x86.snap j).es
  | .s0 met_t3k met_t3v t7 t8 t9 => of_triv (rs := Try.x86.rs) (snap := Try.x86.snap) (c := Try.c86 (.s0 met_t3k met_t3v t7 t8 t9)) (by kernel_rfl)
noncomputable def Try.m86 : Mir Try.prog 86 (List GRule) Bool where
  fs := [.one none]
  ga := fun x => [.val (.one (.c (.sl (E.GRule.L x))))]
  caps := fun x => []
  res := Try.x86.res
  outs := Try.x86.outs
  R := fun x y => Runs (Try.a86 x) (KOf (fun j => Ev (Try.c86) j y) y)
  ok := fun x y h => sys_ok (cx := Try.x86) (body := Try.b86) Try.follow Try.func86 (by kernel_rfl) (by kernel_rfl) (by kernel_rfl) (by kernel_rfl) _ (Nat.le_of_ble_eq_true rfl) (by kernel_rfl) _ (Try.h86 x) (Try.g86) y h
  flat := true
  hflat := fun _ _ => flatE rfl
/-! ### 79 workflow/workflowlaw57.small -/
inductive Try.J79 where
  | s0 (l_t0 : List GRule) (most_t5 : Int) (i_t6 : Int)
  | s1 (l_t0 : List GRule) (most_t5 : Int)
noncomputable def Try.b79 : Code := Try.f79.body.getD .skip
noncomputable def Try.x79 : Cx Try.J79 Bool where
  nt := 51
  rvs := [.tmp 4]
  mh := []
  res := fun y => [.one (.c (.bool y))]
  outs := fun y => []
  path := fun
    | .s0 _ _ _ => [0, 1, 0, 1, 1]
    | .s1 _ _ => [1, 1, 1]
  sig := fun
    | .s0 _ _ _ => [0, 5, 6]
    | .s1 _ _ => [0, 5]
  snap := fun
    | .s0 l_t0 most_t5 i_t6 => ⟨[(0, .one (.c (.sl (E.GRule.L l_t0)))), (5, .one (.c (.int .i64 most_t5))), (6, .one (.c (.int .i64 i_t6)))], []⟩
    | .s1 l_t0 most_t5 => ⟨[(0, .one (.c (.sl (E.GRule.L l_t0)))), (5, .one (.c (.int .i64 most_t5)))], []⟩
noncomputable def Try.a79 (l_0 : List GRule) (arg_1 : GVal) : Cert Try.prog Try.J79 Bool :=
    .call Try.m123 (arg_1, 6000) fun r1 =>
    .jump (.s0 l_0 r1 0) []
noncomputable def Try.c79 : Try.J79 → Cert Try.prog Try.J79 Bool
  | .s0 l_t0 most_t5 i_t6 =>
    .len E.GRule l_t0 <|
    .ite 13 (decide (i_t6 < (l_t0.length : Int)))
    (.ite 17 (decide (i_t6 ≤ 50))
    (.ite 20 (decide (0 ≤ most_t5))
    (.elem E.GRule l_t0 i_t6 fun a2 =>
    .call Try.m123 (a2.Result, most_t5) fun r3 =>
    .elem E.GRule l_t0 i_t6 fun a4 =>
    .elem E.GRule l_t0 i_t6 fun a5 =>
    .jump (.s0 l_t0 (IntKind.i64.wrap ((IntKind.i64.wrap (r3 - (a4.Name.size : Int))) - (a5.Failure.size : Int))) (IntKind.i64.wrap (i_t6 + 1))) [])
    (.jump (.s1 l_t0 most_t5) []))
    (.jump (.s1 l_t0 most_t5) []))
    (.jump (.s1 l_t0 most_t5) [])
  | .s1 l_t0 most_t5 =>
    .ite 46 (decide (0 ≤ most_t5))
    (.len E.GRule l_t0 <|
    .ret (decide ((l_t0.length : Int) ≤ 50)))
    (.ret false)
theorem Try.h79 (l_0 : List GRule) (arg_1 : GVal) : execC Try.prog Try.x79 Try.b79 [] (topC Try.prog Try.x79) (Try.a79 l_0 arg_1) (ES.init [.val (.one (.c (.sl (E.GRule.L l_0)))), .val (.agg ((GVal.cs arg_1).map R.c))]) :=
  of_triv (rs := Try.x79.rs) (snap := Try.x79.snap) (c := Try.a79 l_0 arg_1) (by kernel_rfl)
theorem Try.g79 : ∀ j, chkAt Try.prog Try.x79 Try.b79 (Try.x79.path j) (Try.c79 j) (Try.x79.snap j).es
  | .s0 l_t0 most_t5 i_t6 => of_triv (rs := Try.x79.rs) (snap := Try.x79.snap) (c := Try.c79 (.s0 l_t0 most_t5 i_t6)) (by kernel_rfl)
  | .s1 l_t0 most_t5 => of_triv (rs := Try.x79.rs) (snap := Try.x79.snap) (c := Try.c79 (.s1 l_t0 most_t5)) (by kernel_rfl)
noncomputable def Try.m79 : Mir Try.prog 79 ((List GRule) × GVal) Bool where
  fs := [.one none, .agg (List.replicate 5 none)]
  ga := fun x => [.val (.one (.c (.sl (E.GRule.L x.1)))), .val (.agg ((GVal.cs x.2).map R.c))]
  caps := fun x => []
  res := Try.x79.res
  outs := Try.x79.outs
  R := fun x y => Runs (Try.a79 x.1 x.2) (KOf (fun j => Ev (Try.c79) j y) y)
  ok := fun x y h => sys_ok (cx := Try.x79) (body := Try.b79) Try.follow Try.func79 (by kernel_rfl) (by kernel_rfl) (by kernel_rfl) (by kernel_rfl) _ (Nat.le_of_ble_eq_true rfl) (by kernel_rfl) _ (Try.h79 x.1 x.2) (Try.g79) y h
  flat := true
  hflat := fun _ _ => flatE rfl
/-! ### 80 workflow/workflowlaw57.lives -/
noncomputable def Try.b80 : Code := Try.f80.body.getD .skip
noncomputable def Try.x80 : Cx Empty Bool where
  nt := 78
  rvs := [.tmp 0]
  mh := []
  res := fun y => [.one (.c (.bool y))]
  outs := fun y => []
  path := fun j => nomatch j
  sig := fun j => nomatch j
  snap := fun j => nomatch j
noncomputable def Try.a80 : Cert Try.prog Empty Bool :=
    .bld E.GRule [(GRule.mk (⟨#[112, 97, 121]⟩ : ByteArray) 2 (⟨#[98, 117, 115, 121]⟩ : ByteArray) 3 false (GVal.mk 2 7 (⟨#[]⟩ : ByteArray) [] []))] <|
    .call Try.m81 ([(GRule.mk (⟨#[112, 97, 121]⟩ : ByteArray) 2 (⟨#[98, 117, 115, 121]⟩ : ByteArray) 3 false (GVal.mk 2 7 (⟨#[]⟩ : ByteArray) [] []))], (⟨#[112, 97, 121]⟩ : ByteArray), (GVal.mk 0 0 (⟨#[]⟩ : ByteArray) [] []), 2) fun r1 =>
    .call Try.m81 ([(GRule.mk (⟨#[112, 97, 121]⟩ : ByteArray) 2 (⟨#[98, 117, 115, 121]⟩ : ByteArray) 3 false (GVal.mk 2 7 (⟨#[]⟩ : ByteArray) [] []))], (⟨#[112, 97, 121]⟩ : ByteArray), (GVal.mk 0 0 (⟨#[]⟩ : ByteArray) [] []), 3) fun r2 =>
    .call Try.m84 ([(GRule.mk (⟨#[112, 97, 121]⟩ : ByteArray) 2 (⟨#[98, 117, 115, 121]⟩ : ByteArray) 3 false (GVal.mk 2 7 (⟨#[]⟩ : ByteArray) [] []))], (⟨#[112, 97, 121]⟩ : ByteArray), (GVal.mk 0 0 (⟨#[]⟩ : ByteArray) [] [])) fun r3 =>
    .call Try.m81 ([], (⟨#[120]⟩ : ByteArray), (GVal.mk 2 7 (⟨#[]⟩ : ByteArray) [] []), 1) fun r4 =>
    .call Try.m86 [(GRule.mk (⟨#[112, 97, 121]⟩ : ByteArray) 2 (⟨#[98, 117, 115, 121]⟩ : ByteArray) 3 false (GVal.mk 2 7 (⟨#[]⟩ : ByteArray) [] []))] fun r5 =>
    .ite 28 r5
    (.ite 33 (r1.Kind == 2)
    (.ite 38 (r1.Ticks == 3)
    (.ite 43 (strEq r1.Failure (⟨#[98, 117, 115, 121]⟩ : ByteArray))
    (.ite 48 (r2.Kind == 1)
    (.ite 54 (r2.Data.Num == 7)
    (.ite 57 r3.2
    (.ite 62 (r3.1.Num == 7)
    (.ite 67 (r4.Kind == 1)
    (.ite 72 (r4.Ticks == 1)
    (.ret (r4.Data.Num == 7))
    (.ret false))
    (.ret false))
    (.ret false))
    (.ret false))
    (.ret false))
    (.ret false))
    (.ret false))
    (.ret false))
    (.ret false))
    (.ret false)
noncomputable def Try.c80 : Empty → Cert Try.prog Empty Bool := fun j => nomatch j
theorem Try.h80 : execC Try.prog Try.x80 Try.b80 [] (topC Try.prog Try.x80) (Try.a80) (ES.init []) :=
  of_triv (rs := Try.x80.rs) (snap := Try.x80.snap) (c := Try.a80) (by kernel_rfl)
theorem Try.g80 : ∀ j, chkAt Try.prog Try.x80 Try.b80 (Try.x80.path j) (Try.c80 j) (Try.x80.snap j).es := fun j => nomatch j
noncomputable def Try.m80 : Mir Try.prog 80 Unit Bool where
  fs := []
  ga := fun x => []
  caps := fun x => []
  res := Try.x80.res
  outs := Try.x80.outs
  R := fun x y => Runs (Try.a80) (KOf (fun j => Ev (Try.c80) j y) y)
  ok := fun x y h => sys_ok (cx := Try.x80) (body := Try.b80) Try.follow Try.func80 (by kernel_rfl) (by kernel_rfl) (by kernel_rfl) (by kernel_rfl) _ (Nat.le_of_ble_eq_true rfl) (by kernel_rfl) _ (Try.h80) (Try.g80) y h
  flat := true
  hflat := fun _ _ => flatE rfl
/-! ### 83 workflow/workflowlaw57.rules -/
inductive Try.J83 where
  | s0 (l_t0 : List GRule) (out_t3 : List GRule) (i_t4 : Int)
noncomputable def Try.b83 : Code := Try.f83.body.getD .skip
noncomputable def Try.x83 : Cx Try.J83 (List GRule) where
  nt := 46
  rvs := [.tmp 2]
  mh := []
  res := fun y => [.one (.own 188 10 (E.GRule.L y))]
  outs := fun y => []
  path := fun
    | .s0 _ _ _ => [0, 1, 0, 1, 1]
  sig := fun
    | .s0 _ _ _ => [0, 3, 4]
  snap := fun
    | .s0 l_t0 out_t3 i_t4 => ⟨[(0, .one (.c (.sl (E.GRule.L l_t0)))), (3, .one (.own 0 1)), (4, .one (.c (.int .i64 i_t4)))], [((0, 1), .arr 188 10 (E.GRule.L out_t3))]⟩
noncomputable def Try.a83 (l_0 : List GRule) : Cert Try.prog Try.J83 (List GRule) :=
    .adoptT 3 188 10 <|
    .jump (.s0 l_0 [] 0) [(3999, 1)]
noncomputable def Try.c83 : Try.J83 → Cert Try.prog Try.J83 (List GRule)
  | .s0 l_t0 out_t3 i_t4 =>
    .len E.GRule l_t0 <|
    .ite 8 (decide (i_t4 < (l_t0.length : Int)))
    (.elem E.GRule l_t0 i_t4 fun a1 =>
    .elem E.GRule l_t0 i_t4 fun a2 =>
    .elem E.GRule l_t0 i_t4 fun a3 =>
    .elem E.GRule l_t0 i_t4 fun a4 =>
    .elem E.GRule l_t0 i_t4 fun a5 =>
    .elem E.GRule l_t0 i_t4 fun a6 =>
    .bld E.GRule [(GRule.mk a1.Name a2.Fails a3.Failure a4.Ticks a5.Echo a6.Result)] <|
    .app E.GRule 136 out_t3 [(GRule.mk a1.Name a2.Fails a3.Failure a4.Ticks a5.Echo a6.Result)] <|
    .jump (.s0 l_t0 (out_t3 ++ [(GRule.mk a1.Name a2.Fails a3.Failure a4.Ticks a5.Echo a6.Result)]) (IntKind.i64.wrap (i_t4 + 1))) [(44000, 2)])
    (.ret out_t3)
theorem Try.h83 (l_0 : List GRule) : execC Try.prog Try.x83 Try.b83 [] (topC Try.prog Try.x83) (Try.a83 l_0) (ES.init [.val (.one (.c (.sl (E.GRule.L l_0))))]) :=
  of_triv (rs := Try.x83.rs) (snap := Try.x83.snap) (c := Try.a83 l_0) (by kernel_rfl)
theorem Try.g83 : ∀ j, chkAt Try.prog Try.x83 Try.b83 (Try.x83.path j) (Try.c83 j) (Try.x83.snap j).es
  | .s0 l_t0 out_t3 i_t4 => of_triv (rs := Try.x83.rs) (snap := Try.x83.snap) (c := Try.c83 (.s0 l_t0 out_t3 i_t4)) (by kernel_rfl)
noncomputable def Try.m83 : Mir Try.prog 83 (List GRule) (List GRule) where
  fs := [.one none]
  ga := fun x => [.val (.one (.c (.sl (E.GRule.L x))))]
  caps := fun x => []
  res := Try.x83.res
  outs := Try.x83.outs
  R := fun x y => Runs (Try.a83 x) (KOf (fun j => Ev (Try.c83) j y) y)
  ok := fun x y h => sys_ok (cx := Try.x83) (body := Try.b83) Try.follow Try.func83 (by kernel_rfl) (by kernel_rfl) (by kernel_rfl) (by kernel_rfl) _ (Nat.le_of_ble_eq_true rfl) (by kernel_rfl) _ (Try.h83 x) (Try.g83) y h
  flat := false
  hflat := fun h => nomatch h
/-! ### 157 workflow/workflowref57.rule -/
inductive Try.J157 where
  | s0 (l_t0 : List GRule) (name_t1 : ByteArray) (t4 : GRule) (i_t5 : Int)
noncomputable def Try.b157 : Code := Try.f157.body.getD .skip
noncomputable def Try.x157 : Cx Try.J157 GRule where
  nt := 25
  rvs := [.cell 4 188]
  mh := []
  res := fun y => [.agg ((GRule.cs y).map R.c)]
  outs := fun y => []
  path := fun
    | .s0 _ _ _ _ => [0, 1, 0, 1]
  sig := fun
    | .s0 _ _ _ _ => [0, 1, 4, 5]
  snap := fun
    | .s0 l_t0 name_t1 t4 i_t5 => ⟨[(0, .one (.c (.sl (E.GRule.L l_t0)))), (1, .one (.c (.str name_t1))), (4, .one (.ptr 0 1 0)), (5, .one (.c (.int .i64 i_t5)))], [((0, 1), .box ((((GRule.cs t4).map A.c).set 8 .nil).set 9 .nil))]⟩
noncomputable def Try.a157 (l_0 : List GRule) (name_1 : ByteArray) : Cert Try.prog Try.J157 GRule :=
    .jump (.s0 l_0 name_1 (GRule.mk (⟨#[]⟩ : ByteArray) 0 (⟨#[]⟩ : ByteArray) 0 false (GVal.mk 0 0 (⟨#[]⟩ : ByteArray) [] [])) 0) [(4000, 1)]
noncomputable def Try.c157 : Try.J157 → Cert Try.prog Try.J157 GRule
  | .s0 l_t0 name_t1 t4 i_t5 =>
    .len E.GRule l_t0 <|
    .ite 9 (decide (i_t5 < (l_t0.length : Int)))
    (.elem E.GRule l_t0 i_t5 fun a1 =>
    .ite 18 (strEq a1.Name name_t1)
    (.elem E.GRule l_t0 i_t5 fun a2 =>
    .ret a2)
    (.jump (.s0 l_t0 name_t1 (GRule.mk t4.Name t4.Fails t4.Failure t4.Ticks t4.Echo (GVal.mk t4.Result.Kind t4.Result.Num t4.Result.Text [] [])) (IntKind.i64.wrap (i_t5 + 1))) [(0, 1)]))
    (.ret (GRule.mk name_t1 0 (⟨#[]⟩ : ByteArray) 1 true (GVal.mk 0 0 (⟨#[]⟩ : ByteArray) [] [])))
theorem Try.h157 (l_0 : List GRule) (name_1 : ByteArray) : execC Try.prog Try.x157 Try.b157 [] (topC Try.prog Try.x157) (Try.a157 l_0 name_1) (ES.init [.val (.one (.c (.sl (E.GRule.L l_0)))), .val (.one (.c (.str name_1)))]) :=
  of_triv (rs := Try.x157.rs) (snap := Try.x157.snap) (c := Try.a157 l_0 name_1) (by kernel_rfl)
theorem Try.g157 : ∀ j, chkAt Try.prog Try.x157 Try.b157 (Try.x157.path j) (Try.c157 j) (Try.x157.snap j).es
  | .s0 l_t0 name_t1 t4 i_t5 => of_triv (rs := Try.x157.rs) (snap := Try.x157.snap) (c := Try.c157 (.s0 l_t0 name_t1 t4 i_t5)) (by kernel_rfl)
noncomputable def Try.m157 : Mir Try.prog 157 ((List GRule) × ByteArray) GRule where
  fs := [.one none, .one none]
  ga := fun x => [.val (.one (.c (.sl (E.GRule.L x.1)))), .val (.one (.c (.str x.2)))]
  caps := fun x => []
  res := Try.x157.res
  outs := Try.x157.outs
  R := fun x y => Runs (Try.a157 x.1 x.2) (KOf (fun j => Ev (Try.c157) j y) y)
  ok := fun x y h => sys_ok (cx := Try.x157) (body := Try.b157) Try.follow Try.func157 (by kernel_rfl) (by kernel_rfl) (by kernel_rfl) (by kernel_rfl) _ (Nat.le_of_ble_eq_true rfl) (by kernel_rfl) _ (Try.h157 x.1 x.2) (Try.g157) y h
  flat := false
  hflat := fun h => nomatch h
/-! ### 158 workflow/workflowref57.result -/
noncomputable def Try.b158 : Code := Try.f158.body.getD .skip
noncomputable def Try.x158 : Cx Empty GVal where
  nt := 10
  rvs := [.cell 4 25]
  mh := []
  res := fun y => [.agg ((GVal.cs y).map R.c)]
  outs := fun y => []
  path := fun j => nomatch j
  sig := fun j => nomatch j
  snap := fun j => nomatch j
noncomputable def Try.a158 (r_0 : GRule) (arg_1 : GVal) : Cert Try.prog Empty GVal :=
    .ite 6 r_0.Echo
    (.ret arg_1)
    (.ret r_0.Result)
noncomputable def Try.c158 : Empty → Cert Try.prog Empty GVal := fun j => nomatch j
theorem Try.h158 (r_0 : GRule) (arg_1 : GVal) : execC Try.prog Try.x158 Try.b158 [] (topC Try.prog Try.x158) (Try.a158 r_0 arg_1) (ES.init [.val (.agg ((GRule.cs r_0).map R.c)), .val (.agg ((GVal.cs arg_1).map R.c))]) :=
  of_triv (rs := Try.x158.rs) (snap := Try.x158.snap) (c := Try.a158 r_0 arg_1) (by kernel_rfl)
theorem Try.g158 : ∀ j, chkAt Try.prog Try.x158 Try.b158 (Try.x158.path j) (Try.c158 j) (Try.x158.snap j).es := fun j => nomatch j
noncomputable def Try.m158 : Mir Try.prog 158 (GRule × GVal) GVal where
  fs := [.agg (List.replicate 10 none), .agg (List.replicate 5 none)]
  ga := fun x => [.val (.agg ((GRule.cs x.1).map R.c)), .val (.agg ((GVal.cs x.2).map R.c))]
  caps := fun x => []
  res := Try.x158.res
  outs := Try.x158.outs
  R := fun x y => Runs (Try.a158 x.1 x.2) (KOf (fun j => Ev (Try.c158) j y) y)
  ok := fun x y h => sys_ok (cx := Try.x158) (body := Try.b158) Try.follow Try.func158 (by kernel_rfl) (by kernel_rfl) (by kernel_rfl) (by kernel_rfl) _ (Nat.le_of_ble_eq_true rfl) (by kernel_rfl) _ (Try.h158 x.1 x.2) (Try.g158) y h
  flat := false
  hflat := fun h => nomatch h
/-! ### 82 workflow/workflowref57.Of -/
inductive Try.J82 where
  | s0 (arg_t6 : GVal) (t8 : GOOutcome) (r_t9 : GRule) (t21 : Bool)
noncomputable def Try.b82 : Code := Try.f82.body.getD .skip
noncomputable def Try.x82 : Cx Try.J82 GOOutcome where
  nt := 37
  rvs := [.cell 8 106]
  mh := []
  res := fun y => [.agg ((GOOutcome.cs y).map R.c)]
  outs := fun y => []
  path := fun
    | .s0 _ _ _ _ => [1, 0, 1, 1]
  sig := fun
    | .s0 _ _ _ _ => [6, 8, 9, 21]
  snap := fun
    | .s0 arg_t6 t8 r_t9 t21 => ⟨[(6, .one (.ptr 0 1 0)), (8, .one (.ptr 1 1 0)), (9, .one (.ptr 2 1 0)), (21, .one (.c (.bool t21)))], [((0, 1), .box ((GVal.cs arg_t6).map A.c)), ((1, 1), .box ((((GOOutcome.cs t8).map A.c).set 6 .nil).set 7 .nil)), ((2, 1), .box ((GRule.cs r_t9).map A.c))]⟩
noncomputable def Try.a82 (l_0 : List GRule) (name_1 : ByteArray) (arg_2 : GVal) (attempt_3 : Int) : Cert Try.prog Try.J82 GOOutcome :=
    .call Try.m157 (l_0, name_1) fun r1 =>
    .ite 16 (decide (0 < r1.Fails))
    (.jump (.s0 arg_2 (GOOutcome.mk 0 0 (⟨#[]⟩ : ByteArray) (GVal.mk 0 0 (⟨#[]⟩ : ByteArray) [] [])) r1 (decide (attempt_3 ≤ r1.Fails))) [(6000, 1), (8000, 1), (9000, 1)])
    (.jump (.s0 arg_2 (GOOutcome.mk 0 0 (⟨#[]⟩ : ByteArray) (GVal.mk 0 0 (⟨#[]⟩ : ByteArray) [] [])) r1 false) [(6000, 1), (8000, 1), (9000, 1)])
noncomputable def Try.c82 : Try.J82 → Cert Try.prog Try.J82 GOOutcome
  | .s0 arg_t6 t8 r_t9 t21 =>
    .ite 21 t21
    (.ite 24 (strEq r_t9.Failure (⟨#[104, 97, 110, 103]⟩ : ByteArray))
    (.ret (GOOutcome.mk 3 0 (⟨#[]⟩ : ByteArray) (GVal.mk 0 0 (⟨#[]⟩ : ByteArray) [] [])))
    (.ret (GOOutcome.mk 2 r_t9.Ticks r_t9.Failure (GVal.mk 0 0 (⟨#[]⟩ : ByteArray) [] []))))
    (.call Try.m158 (r_t9, arg_t6) fun r2 =>
    .ret (GOOutcome.mk 1 r_t9.Ticks (⟨#[]⟩ : ByteArray) r2))
theorem Try.h82 (l_0 : List GRule) (name_1 : ByteArray) (arg_2 : GVal) (attempt_3 : Int) : execC Try.prog Try.x82 Try.b82 [] (topC Try.prog Try.x82) (Try.a82 l_0 name_1 arg_2 attempt_3) (ES.init [.val (.one (.c (.sl (E.GRule.L l_0)))), .val (.one (.c (.str name_1))), .val (.agg ((GVal.cs arg_2).map R.c)), .val (.one (.c (.int .i64 attempt_3)))]) :=
  of_triv (rs := Try.x82.rs) (snap := Try.x82.snap) (c := Try.a82 l_0 name_1 arg_2 attempt_3) (by kernel_rfl)
theorem Try.g82 : ∀ j, chkAt Try.prog Try.x82 Try.b82 (Try.x82.path j) (Try.c82 j) (Try.x82.snap j).es
  | .s0 arg_t6 t8 r_t9 t21 => of_triv (rs := Try.x82.rs) (snap := Try.x82.snap) (c := Try.c82 (.s0 arg_t6 t8 r_t9 t21)) (by kernel_rfl)
noncomputable def Try.m82 : Mir Try.prog 82 ((List GRule) × ByteArray × GVal × Int) GOOutcome where
  fs := [.one none, .one none, .agg (List.replicate 5 none), .one none]
  ga := fun x => [.val (.one (.c (.sl (E.GRule.L x.1)))), .val (.one (.c (.str x.2.1))), .val (.agg ((GVal.cs x.2.2.1).map R.c)), .val (.one (.c (.int .i64 x.2.2.2)))]
  caps := fun x => []
  res := Try.x82.res
  outs := Try.x82.outs
  R := fun x y => Runs (Try.a82 x.1 x.2.1 x.2.2.1 x.2.2.2) (KOf (fun j => Ev (Try.c82) j y) y)
  ok := fun x y h => sys_ok (cx := Try.x82) (body := Try.b82) Try.follow Try.func82 (by kernel_rfl) (by kernel_rfl) (by kernel_rfl) (by kernel_rfl) _ (Nat.le_of_ble_eq_true rfl) (by kernel_rfl) _ (Try.h82 x.1 x.2.1 x.2.2.1 x.2.2.2) (Try.g82) y h
  flat := false
  hflat := fun h => nomatch h
/-! ### 85 workflow/workflowref57.Final -/
noncomputable def Try.b85 : Code := Try.f85.body.getD .skip
noncomputable def Try.x85 : Cx Empty (GVal × Bool) where
  nt := 29
  rvs := [.cell 6 25, .tmp 7]
  mh := []
  res := fun y => [.agg ((GVal.cs y.1).map R.c), .one (.c (.bool y.2))]
  outs := fun y => []
  path := fun j => nomatch j
  sig := fun j => nomatch j
  snap := fun j => nomatch j
noncomputable def Try.a85 (l_0 : List GRule) (name_1 : ByteArray) (arg_2 : GVal) : Cert Try.prog Empty (GVal × Bool) :=
    .call Try.m157 (l_0, name_1) fun r1 =>
    .ite 15 (decide (0 < r1.Fails))
    (.ite 19 (strEq r1.Failure (⟨#[104, 97, 110, 103]⟩ : ByteArray))
    (.ret ((GVal.mk 0 0 (⟨#[]⟩ : ByteArray) [] []), false))
    (.ite 24 (decide (1000 ≤ r1.Fails))
    (.ret ((GVal.mk 0 0 (⟨#[]⟩ : ByteArray) [] []), false))
    (.call Try.m158 (r1, arg_2) fun r2 =>
    .ret (r2, true))))
    (.call Try.m158 (r1, arg_2) fun r3 =>
    .ret (r3, true))
noncomputable def Try.c85 : Empty → Cert Try.prog Empty (GVal × Bool) := fun j => nomatch j
theorem Try.h85 (l_0 : List GRule) (name_1 : ByteArray) (arg_2 : GVal) : execC Try.prog Try.x85 Try.b85 [] (topC Try.prog Try.x85) (Try.a85 l_0 name_1 arg_2) (ES.init [.val (.one (.c (.sl (E.GRule.L l_0)))), .val (.one (.c (.str name_1))), .val (.agg ((GVal.cs arg_2).map R.c))]) :=
  of_triv (rs := Try.x85.rs) (snap := Try.x85.snap) (c := Try.a85 l_0 name_1 arg_2) (by kernel_rfl)
theorem Try.g85 : ∀ j, chkAt Try.prog Try.x85 Try.b85 (Try.x85.path j) (Try.c85 j) (Try.x85.snap j).es := fun j => nomatch j
noncomputable def Try.m85 : Mir Try.prog 85 ((List GRule) × ByteArray × GVal) (GVal × Bool) where
  fs := [.one none, .one none, .agg (List.replicate 5 none)]
  ga := fun x => [.val (.one (.c (.sl (E.GRule.L x.1)))), .val (.one (.c (.str x.2.1))), .val (.agg ((GVal.cs x.2.2).map R.c))]
  caps := fun x => []
  res := Try.x85.res
  outs := Try.x85.outs
  R := fun x y => Runs (Try.a85 x.1 x.2.1 x.2.2) (KOf (fun j => Ev (Try.c85) j y) y)
  ok := fun x y h => sys_ok (cx := Try.x85) (body := Try.b85) Try.follow Try.func85 (by kernel_rfl) (by kernel_rfl) (by kernel_rfl) (by kernel_rfl) _ (Nat.le_of_ble_eq_true rfl) (by kernel_rfl) _ (Try.h85 x.1 x.2.1 x.2.2) (Try.g85) y h
  flat := false
  hflat := fun h => nomatch h
/-! ### 206 workflow/workflowref22.Ident -/
inductive Try.J206 where
  | s0 (s_t0 : ByteArray) (i_t3 : Int)
noncomputable def Try.b206 : Code := Try.f206.body.getD .skip
noncomputable def Try.x206 : Cx Try.J206 Bool where
  nt := 40
  rvs := [.tmp 2]
  mh := []
  res := fun y => [.one (.c (.bool y))]
  outs := fun y => []
  path := fun
    | .s0 _ _ => [0, 1, 0, 1]
  sig := fun
    | .s0 _ _ => [0, 3]
  snap := fun
    | .s0 s_t0 i_t3 => ⟨[(0, .one (.c (.str s_t0))), (3, .one (.c (.int .i64 i_t3)))], []⟩
noncomputable def Try.a206 (s_0 : ByteArray) : Cert Try.prog Try.J206 Bool :=
    .jump (.s0 s_0 0) []
noncomputable def Try.c206 : Try.J206 → Cert Try.prog Try.J206 Bool
  | .s0 s_t0 i_t3 =>
    .ite 7 (decide (i_t3 < (s_t0.size : Int)))
    (.byte s_t0 i_t3 <|
    .ite 14 (decide ((byteAt s_t0 i_t3.toNat) < 33))
    (.ret false)
    (.byte s_t0 i_t3 <|
    .ite 20 (decide (126 < (byteAt s_t0 i_t3.toNat)))
    (.ret false)
    (.byte s_t0 i_t3 <|
    .ite 26 ((byteAt s_t0 i_t3.toNat) == 47)
    (.ret false)
    (.byte s_t0 i_t3 <|
    .ite 31 ((byteAt s_t0 i_t3.toNat) == 34)
    (.ret false)
    (.jump (.s0 s_t0 (IntKind.i64.wrap (i_t3 + 1))) [])))))
    (.ite 35 (decide (1 ≤ (s_t0.size : Int)))
    (.ret (decide ((s_t0.size : Int) ≤ 64)))
    (.ret false))
theorem Try.h206 (s_0 : ByteArray) : execC Try.prog Try.x206 Try.b206 [] (topC Try.prog Try.x206) (Try.a206 s_0) (ES.init [.val (.one (.c (.str s_0)))]) :=
  of_triv (rs := Try.x206.rs) (snap := Try.x206.snap) (c := Try.a206 s_0) (by kernel_rfl)
theorem Try.g206 : ∀ j, chkAt Try.prog Try.x206 Try.b206 (Try.x206.path j) (Try.c206 j) (Try.x206.snap j).es
  | .s0 s_t0 i_t3 => of_triv (rs := Try.x206.rs) (snap := Try.x206.snap) (c := Try.c206 (.s0 s_t0 i_t3)) (by kernel_rfl)
noncomputable def Try.m206 : Mir Try.prog 206 ByteArray Bool where
  fs := [.one none]
  ga := fun x => [.val (.one (.c (.str x)))]
  caps := fun x => []
  res := Try.x206.res
  outs := Try.x206.outs
  R := fun x y => Runs (Try.a206 x) (KOf (fun j => Ev (Try.c206) j y) y)
  ok := fun x y h => sys_ok (cx := Try.x206) (body := Try.b206) Try.follow Try.func206 (by kernel_rfl) (by kernel_rfl) (by kernel_rfl) (by kernel_rfl) _ (Nat.le_of_ble_eq_true rfl) (by kernel_rfl) _ (Try.h206 x) (Try.g206) y h
  flat := true
  hflat := fun _ _ => flatE rfl
/-! ### 160 workflow/workflowref57.valid -/
inductive Try.J160 where
  | s0 (r_t1 : GRule)
noncomputable def Try.b160 : Code := Try.f160.body.getD .skip
noncomputable def Try.x160 : Cx Try.J160 Bool where
  nt := 61
  rvs := [.tmp 2]
  mh := []
  res := fun y => [.one (.c (.bool y))]
  outs := fun y => []
  path := fun
    | .s0 _ => [1, 1, 1]
  sig := fun
    | .s0 _ => [1]
  snap := fun
    | .s0 r_t1 => ⟨[(1, .one (.ptr 0 1 0))], [((0, 1), .box ((GRule.cs r_t1).map A.c))]⟩
noncomputable def Try.a160 (r_0 : GRule) : Cert Try.prog Try.J160 Bool :=
    .call Try.m135 r_0.Name fun r1 =>
    .ite 7 (!r1)
    (.ret false)
    (.ite 12 (decide (r_0.Fails < 0))
    (.ret false)
    (.ite 17 (decide (1000 < r_0.Fails))
    (.ret false)
    (.ite 22 (decide (r_0.Ticks < 0))
    (.ret false)
    (.ite 27 (decide (1099511627776 < r_0.Ticks))
    (.ret false)
    (.call (Try.m148 Try.m200.R Try.m200.ok Try.m225.R Try.m225.ok Try.m226.R Try.m226.ok Try.m202.R Try.m202.ok) r_0.Result fun r2 =>
    .ite 32 (!r2)
    (.ret false)
    (.ite 36 (r_0.Fails == 0)
    (.ite 41 (!strEq r_0.Failure (⟨#[]⟩ : ByteArray))
    (.ret false)
    (.ite 45 (decide (0 < r_0.Fails))
    (.call Try.m206 r_0.Failure fun r3 =>
    .ite 51 (!r3)
    (.ret false)
    (.jump (.s0 r_0) [(1000, 1)]))
    (.jump (.s0 r_0) [(1000, 1)])))
    (.ite 45 (decide (0 < r_0.Fails))
    (.call Try.m206 r_0.Failure fun r4 =>
    .ite 51 (!r4)
    (.ret false)
    (.jump (.s0 r_0) [(1000, 1)]))
    (.jump (.s0 r_0) [(1000, 1)]))))))))
noncomputable def Try.c160 : Try.J160 → Cert Try.prog Try.J160 Bool
  | .s0 r_t1 =>
    .ite 55 (!r_t1.Echo)
    (.ret true)
    (.ret (r_t1.Result.Kind == 0))
theorem Try.h160 (r_0 : GRule) : execC Try.prog Try.x160 Try.b160 [] (topC Try.prog Try.x160) (Try.a160 r_0) (ES.init [.val (.agg ((GRule.cs r_0).map R.c))]) :=
  of_triv (rs := Try.x160.rs) (snap := Try.x160.snap) (c := Try.a160 r_0) (by kernel_rfl)
theorem Try.g160 : ∀ j, chkAt Try.prog Try.x160 Try.b160 (Try.x160.path j) (Try.c160 j) (Try.x160.snap j).es
  | .s0 r_t1 => of_triv (rs := Try.x160.rs) (snap := Try.x160.snap) (c := Try.c160 (.s0 r_t1)) (by kernel_rfl)
noncomputable def Try.m160 : Mir Try.prog 160 GRule Bool where
  fs := [.agg (List.replicate 10 none)]
  ga := fun x => [.val (.agg ((GRule.cs x).map R.c))]
  caps := fun x => []
  res := Try.x160.res
  outs := Try.x160.outs
  R := fun x y => Runs (Try.a160 x) (KOf (fun j => Ev (Try.c160) j y) y)
  ok := fun x y h => sys_ok (cx := Try.x160) (body := Try.b160) Try.follow Try.func160 (by kernel_rfl) (by kernel_rfl) (by kernel_rfl) (by kernel_rfl) _ (Nat.le_of_ble_eq_true rfl) (by kernel_rfl) _ (Try.h160 x) (Try.g160) y h
  flat := true
  hflat := fun _ _ => flatE rfl
/-! ### 87 workflow/workflowref57.Right -/
inductive Try.J87 where
  | s0 (l_t0 : List GRule) (i_t3 : Int)
  | s1 (l_t0 : List GRule) (i_t3 : Int) (k_t4 : Int)
noncomputable def Try.b87 : Code := Try.f87.body.getD .skip
noncomputable def Try.x87 : Cx Try.J87 Bool where
  nt := 33
  rvs := [.tmp 2]
  mh := []
  res := fun y => [.one (.c (.bool y))]
  outs := fun y => []
  path := fun
    | .s0 _ _ => [0, 1, 0, 1]
    | .s1 _ _ _ => [0, 1, 1, 0, 0, 1, 0, 0, 1, 0, 1]
  sig := fun
    | .s0 _ _ => [0, 3]
    | .s1 _ _ _ => [0, 3, 4]
  snap := fun
    | .s0 l_t0 i_t3 => ⟨[(0, .one (.c (.sl (E.GRule.L l_t0)))), (3, .one (.c (.int .i64 i_t3)))], []⟩
    | .s1 l_t0 i_t3 k_t4 => ⟨[(0, .one (.c (.sl (E.GRule.L l_t0)))), (3, .one (.c (.int .i64 i_t3))), (4, .one (.c (.int .i64 k_t4)))], []⟩
noncomputable def Try.a87 (l_0 : List GRule) : Cert Try.prog Try.J87 Bool :=
    .jump (.s0 l_0 0) []
noncomputable def Try.c87 : Try.J87 → Cert Try.prog Try.J87 Bool
  | .s0 l_t0 i_t3 =>
    .len E.GRule l_t0 <|
    .ite 8 (decide (i_t3 < (l_t0.length : Int)))
    (.elem E.GRule l_t0 i_t3 fun a1 =>
    .call Try.m160 a1 fun r2 =>
    .ite 16 (!r2)
    (.ret false)
    (.jump (.s1 l_t0 i_t3 0) []))
    (.ret true)
  | .s1 l_t0 i_t3 k_t4 =>
    .ite 19 (decide (k_t4 < i_t3))
    (.elem E.GRule l_t0 k_t4 fun a3 =>
    .elem E.GRule l_t0 i_t3 fun a4 =>
    .ite 32 (strEq a3.Name a4.Name)
    (.ret false)
    (.jump (.s1 l_t0 i_t3 (IntKind.i64.wrap (k_t4 + 1))) []))
    (.jump (.s0 l_t0 (IntKind.i64.wrap (i_t3 + 1))) [])
theorem Try.h87 (l_0 : List GRule) : execC Try.prog Try.x87 Try.b87 [] (topC Try.prog Try.x87) (Try.a87 l_0) (ES.init [.val (.one (.c (.sl (E.GRule.L l_0))))]) :=
  of_triv (rs := Try.x87.rs) (snap := Try.x87.snap) (c := Try.a87 l_0) (by kernel_rfl)
theorem Try.g87 : ∀ j, chkAt Try.prog Try.x87 Try.b87 (Try.x87.path j) (Try.c87 j) (Try.x87.snap j).es
  | .s0 l_t0 i_t3 => of_triv (rs := Try.x87.rs) (snap := Try.x87.snap) (c := Try.c87 (.s0 l_t0 i_t3)) (by kernel_rfl)
  | .s1 l_t0 i_t3 k_t4 => of_triv (rs := Try.x87.rs) (snap := Try.x87.snap) (c := Try.c87 (.s1 l_t0 i_t3 k_t4)) (by kernel_rfl)
noncomputable def Try.m87 : Mir Try.prog 87 (List GRule) Bool where
  fs := [.one none]
  ga := fun x => [.val (.one (.c (.sl (E.GRule.L x))))]
  caps := fun x => []
  res := Try.x87.res
  outs := Try.x87.outs
  R := fun x y => Runs (Try.a87 x) (KOf (fun j => Ev (Try.c87) j y) y)
  ok := fun x y h => sys_ok (cx := Try.x87) (body := Try.b87) Try.follow Try.func87 (by kernel_rfl) (by kernel_rfl) (by kernel_rfl) (by kernel_rfl) _ (Nat.le_of_ble_eq_true rfl) (by kernel_rfl) _ (Try.h87 x) (Try.g87) y h
  flat := true
  hflat := fun _ _ => flatE rfl
/-! ### 19 workflow/workflowlaw57.OutsideAnswers -/
noncomputable def Try.b19 : Code := Try.f19.body.getD .skip
noncomputable def Try.x19 : Cx Empty Bool where
  nt := 98
  rvs := [.tmp 8]
  mh := []
  res := fun y => [.one (.c (.bool y))]
  outs := fun y => []
  path := fun j => nomatch j
  sig := fun j => nomatch j
  snap := fun j => nomatch j
noncomputable def Try.a19 (l_0 : List GRule) (name_1 : ByteArray) (arg_2 : GVal) (attempt_3 : Int) : Cert Try.prog Empty Bool :=
    .call Try.m79 (l_0, arg_2) fun r1 =>
    .ite 19 (!r1)
    (.call Try.m80 () fun r2 =>
    .ret r2)
    (.ite 23 (decide (1000 < (name_1.size : Int)))
    (.call Try.m80 () fun r3 =>
    .ret r3)
    (.call Try.m81 (l_0, name_1, arg_2, attempt_3) fun r4 =>
    .call (Try.m83).weak l_0 fun r5 =>
    .call Try.m82 (r5, name_1, arg_2, attempt_3) fun r6 =>
    .call Try.m84 (l_0, name_1, arg_2) fun r7 =>
    .call (Try.m83).weak l_0 fun r8 =>
    .call Try.m85 (r8, name_1, arg_2) fun r9 =>
    .call Try.m86 l_0 fun r10 =>
    .call Try.m83 l_0 fun r11 =>
    .call Try.m87 r11 fun r12 =>
    .ite 57 (r10 == r12)
    (.ite 64 (r4.Kind == r6.Kind)
    (.ite 71 (r4.Ticks == r6.Ticks)
    (.ite 78 (strEq r4.Failure r6.Failure)
    (.call Try.m56 (r4.Data, r6.Data) fun r13 =>
    .ite 85 r13
    (.call Try.m56 (r7.1, r9.1) fun r14 =>
    .ite 90 r14
    (.ite 95 (r7.2 == r9.2)
    (.call Try.m80 () fun r15 =>
    .ret r15)
    (.ret false))
    (.ret false))
    (.ret false))
    (.ret false))
    (.ret false))
    (.ret false))
    (.ret false)))
noncomputable def Try.c19 : Empty → Cert Try.prog Empty Bool := fun j => nomatch j
theorem Try.h19 (l_0 : List GRule) (name_1 : ByteArray) (arg_2 : GVal) (attempt_3 : Int) : execC Try.prog Try.x19 Try.b19 [] (topC Try.prog Try.x19) (Try.a19 l_0 name_1 arg_2 attempt_3) (ES.init [.val (.one (.c (.sl (E.GRule.L l_0)))), .val (.one (.c (.str name_1))), .val (.agg ((GVal.cs arg_2).map R.c)), .val (.one (.c (.int .i64 attempt_3)))]) :=
  of_triv (rs := Try.x19.rs) (snap := Try.x19.snap) (c := Try.a19 l_0 name_1 arg_2 attempt_3) (by kernel_rfl)
theorem Try.g19 : ∀ j, chkAt Try.prog Try.x19 Try.b19 (Try.x19.path j) (Try.c19 j) (Try.x19.snap j).es := fun j => nomatch j
noncomputable def Try.m19 : Mir Try.prog 19 ((List GRule) × ByteArray × GVal × Int) Bool where
  fs := [.one none, .one none, .agg (List.replicate 5 none), .one none]
  ga := fun x => [.val (.one (.c (.sl (E.GRule.L x.1)))), .val (.one (.c (.str x.2.1))), .val (.agg ((GVal.cs x.2.2.1).map R.c)), .val (.one (.c (.int .i64 x.2.2.2)))]
  caps := fun x => []
  res := Try.x19.res
  outs := Try.x19.outs
  R := fun x y => Runs (Try.a19 x.1 x.2.1 x.2.2.1 x.2.2.2) (KOf (fun j => Ev (Try.c19) j y) y)
  ok := fun x y h => sys_ok (cx := Try.x19) (body := Try.b19) Try.follow Try.func19 (by kernel_rfl) (by kernel_rfl) (by kernel_rfl) (by kernel_rfl) _ (Nat.le_of_ble_eq_true rfl) (by kernel_rfl) _ (Try.h19 x.1 x.2.1 x.2.2.1 x.2.2.2) (Try.g19) y h
  flat := true
  hflat := fun _ _ => flatE rfl
/-! ### 20 workflow/workflowlaw57.OutsideFinal -/
inductive Try.J20 where
  | s0 (l_t0 : List GRule) (name_t1 : ByteArray) (arg_t7 : GVal) (a_t11 : GOOutcome)
noncomputable def Try.b20 : Code := Try.f20.body.getD .skip
noncomputable def Try.x20 : Cx Try.J20 Bool where
  nt := 110
  rvs := [.tmp 10]
  mh := []
  res := fun y => [.one (.c (.bool y))]
  outs := fun y => []
  path := fun
    | .s0 _ _ _ _ => [1, 1, 1, 1]
  sig := fun
    | .s0 _ _ _ _ => [0, 1, 7, 11]
  snap := fun
    | .s0 l_t0 name_t1 arg_t7 a_t11 => ⟨[(0, .one (.c (.sl (E.GRule.L l_t0)))), (1, .one (.c (.str name_t1))), (7, .one (.ptr 0 1 0)), (11, .one (.ptr 1 1 0))], [((0, 1), .box ((GVal.cs arg_t7).map A.c)), ((1, 1), .box ((((GOOutcome.cs a_t11).map A.c).set 6 (.own 2 1)).set 7 (.own 3 1))), ((2, 1), .arr 25 5 (E.GVal.L a_t11.Data.Items)), ((3, 1), .arr 9 1 (E.str.L a_t11.Data.Keys))]⟩
noncomputable def Try.a20 (l_0 : List GRule) (name_1 : ByteArray) (arg_2 : GVal) (m_3 : Int) (n_4 : Int) : Cert Try.prog Try.J20 Bool :=
    .call Try.m79 (l_0, arg_2) fun r1 =>
    .ite 20 (!r1)
    (.call Try.m80 () fun r2 =>
    .ret r2)
    (.ite 25 (decide (1000 < (name_1.size : Int)))
    (.call Try.m80 () fun r3 =>
    .ret r3)
    (.ite 29 (decide (m_3 < 1))
    (.call Try.m80 () fun r4 =>
    .ret r4)
    (.ite 33 (decide (n_4 < m_3))
    (.call Try.m80 () fun r5 =>
    .ret r5)
    (.call Try.m81 (l_0, name_1, arg_2, m_3) fun r6 =>
    .call Try.m81 (l_0, name_1, arg_2, n_4) fun r7 =>
    .ite 48 (r6.Kind == 1)
    (.ite 52 (r7.Kind != 1)
    (.ret false)
    (.call Try.m56 (r6.Data, r7.Data) fun r8 =>
    .ite 60 (!r8)
    (.ret false)
    (.ite 67 (r6.Ticks != r7.Ticks)
    (.ret false)
    (.jump (.s0 l_0 name_1 arg_2 r6) [(7000, 1), (11000, 1), (39006, 1), (39007, 1)]))))
    (.jump (.s0 l_0 name_1 arg_2 r6) [(7000, 1), (11000, 1), (39006, 1), (39007, 1)])))))
noncomputable def Try.c20 : Try.J20 → Cert Try.prog Try.J20 Bool
  | .s0 l_t0 name_t1 arg_t7 a_t11 =>
    .call Try.m84 (l_t0, name_t1, arg_t7) fun r9 =>
    .call Try.m81 (l_t0, name_t1, arg_t7, 1000) fun r10 =>
    .ite 81 (!r9.2)
    (.ite 95 (!r9.2)
    (.call Try.m80 () fun r11 =>
    .ret r11)
    (.ite 100 (a_t11.Kind != 1)
    (.call Try.m80 () fun r12 =>
    .ret r12)
    (.call Try.m56 (a_t11.Data, r9.1) fun r13 =>
    .ite 107 r13
    (.call Try.m80 () fun r14 =>
    .ret r14)
    (.ret false))))
    (.ite 85 (r10.Kind == 1)
    (.call Try.m56 (r10.Data, r9.1) fun r15 =>
    .ite 92 r15
    (.ite 95 (!r9.2)
    (.call Try.m80 () fun r16 =>
    .ret r16)
    (.ite 100 (a_t11.Kind != 1)
    (.call Try.m80 () fun r17 =>
    .ret r17)
    (.call Try.m56 (a_t11.Data, r9.1) fun r18 =>
    .ite 107 r18
    (.call Try.m80 () fun r19 =>
    .ret r19)
    (.ret false))))
    (.ret false))
    (.ret false))
theorem Try.h20 (l_0 : List GRule) (name_1 : ByteArray) (arg_2 : GVal) (m_3 : Int) (n_4 : Int) : execC Try.prog Try.x20 Try.b20 [] (topC Try.prog Try.x20) (Try.a20 l_0 name_1 arg_2 m_3 n_4) (ES.init [.val (.one (.c (.sl (E.GRule.L l_0)))), .val (.one (.c (.str name_1))), .val (.agg ((GVal.cs arg_2).map R.c)), .val (.one (.c (.int .i64 m_3))), .val (.one (.c (.int .i64 n_4)))]) :=
  of_triv (rs := Try.x20.rs) (snap := Try.x20.snap) (c := Try.a20 l_0 name_1 arg_2 m_3 n_4) (by kernel_rfl)
theorem Try.g20 : ∀ j, chkAt Try.prog Try.x20 Try.b20 (Try.x20.path j) (Try.c20 j) (Try.x20.snap j).es
  | .s0 l_t0 name_t1 arg_t7 a_t11 => of_triv (rs := Try.x20.rs) (snap := Try.x20.snap) (c := Try.c20 (.s0 l_t0 name_t1 arg_t7 a_t11)) (by kernel_rfl)
noncomputable def Try.m20 : Mir Try.prog 20 ((List GRule) × ByteArray × GVal × Int × Int) Bool where
  fs := [.one none, .one none, .agg (List.replicate 5 none), .one none, .one none]
  ga := fun x => [.val (.one (.c (.sl (E.GRule.L x.1)))), .val (.one (.c (.str x.2.1))), .val (.agg ((GVal.cs x.2.2.1).map R.c)), .val (.one (.c (.int .i64 x.2.2.2.1))), .val (.one (.c (.int .i64 x.2.2.2.2)))]
  caps := fun x => []
  res := Try.x20.res
  outs := Try.x20.outs
  R := fun x y => Runs (Try.a20 x.1 x.2.1 x.2.2.1 x.2.2.2.1 x.2.2.2.2) (KOf (fun j => Ev (Try.c20) j y) y)
  ok := fun x y h => sys_ok (cx := Try.x20) (body := Try.b20) Try.follow Try.func20 (by kernel_rfl) (by kernel_rfl) (by kernel_rfl) (by kernel_rfl) _ (Nat.le_of_ble_eq_true rfl) (by kernel_rfl) _ (Try.h20 x.1 x.2.1 x.2.2.1 x.2.2.2.1 x.2.2.2.2) (Try.g20) y h
  flat := true
  hflat := fun _ _ => flatE rfl
/-! ### 21 workflow/workflowlaw57.OutsideOthers -/
noncomputable def Try.b21 : Code := Try.f21.body.getD .skip
noncomputable def Try.x21 : Cx Empty Bool where
  nt := 108
  rvs := [.tmp 10]
  mh := []
  res := fun y => [.one (.c (.bool y))]
  outs := fun y => []
  path := fun j => nomatch j
  sig := fun j => nomatch j
  snap := fun j => nomatch j
noncomputable def Try.a21 (l_0 : List GRule) (more_1 : GRule) (name_2 : ByteArray) (arg_3 : GVal) (attempt_4 : Int) : Cert Try.prog Empty Bool :=
    .call Try.m79 (l_0, arg_3) fun r1 =>
    .ite 22 (!r1)
    (.call Try.m80 () fun r2 =>
    .ret r2)
    (.bld E.GRule [more_1] <|
    .call Try.m79 ([more_1], arg_3) fun r3 =>
    .ite 29 (!r3)
    (.call Try.m80 () fun r4 =>
    .ret r4)
    (.ite 34 (decide (1000 < (name_2.size : Int)))
    (.call Try.m80 () fun r5 =>
    .ret r5)
    (.ite 39 (strEq more_1.Name name_2)
    (.call Try.m80 () fun r6 =>
    .ret r6)
    (.bld E.GRule [more_1] <|
    .app E.GRule 136 [more_1] l_0 <|
    .frzo 1000004 44000 1 <|
    .call Try.m81 (l_0, name_2, arg_3, attempt_4) fun r7 =>
    .call Try.m81 (([more_1] ++ l_0), name_2, arg_3, attempt_4) fun r8 =>
    .call Try.m84 (l_0, name_2, arg_3) fun r9 =>
    .call Try.m84 (([more_1] ++ l_0), name_2, arg_3) fun r10 =>
    .ite 74 (r7.Kind == r8.Kind)
    (.ite 81 (r7.Ticks == r8.Ticks)
    (.ite 88 (strEq r7.Failure r8.Failure)
    (.call Try.m56 (r7.Data, r8.Data) fun r11 =>
    .ite 95 r11
    (.call Try.m56 (r9.1, r10.1) fun r12 =>
    .ite 100 r12
    (.ite 105 (r9.2 == r10.2)
    (.call Try.m80 () fun r13 =>
    .ret r13)
    (.ret false))
    (.ret false))
    (.ret false))
    (.ret false))
    (.ret false))
    (.ret false)))))
noncomputable def Try.c21 : Empty → Cert Try.prog Empty Bool := fun j => nomatch j
theorem Try.h21 (l_0 : List GRule) (more_1 : GRule) (name_2 : ByteArray) (arg_3 : GVal) (attempt_4 : Int) : execC Try.prog Try.x21 Try.b21 [] (topC Try.prog Try.x21) (Try.a21 l_0 more_1 name_2 arg_3 attempt_4) (ES.init [.val (.one (.c (.sl (E.GRule.L l_0)))), .val (.agg ((GRule.cs more_1).map R.c)), .val (.one (.c (.str name_2))), .val (.agg ((GVal.cs arg_3).map R.c)), .val (.one (.c (.int .i64 attempt_4)))]) :=
  of_triv (rs := Try.x21.rs) (snap := Try.x21.snap) (c := Try.a21 l_0 more_1 name_2 arg_3 attempt_4) (by kernel_rfl)
theorem Try.g21 : ∀ j, chkAt Try.prog Try.x21 Try.b21 (Try.x21.path j) (Try.c21 j) (Try.x21.snap j).es := fun j => nomatch j
noncomputable def Try.m21 : Mir Try.prog 21 ((List GRule) × GRule × ByteArray × GVal × Int) Bool where
  fs := [.one none, .agg (List.replicate 10 none), .one none, .agg (List.replicate 5 none), .one none]
  ga := fun x => [.val (.one (.c (.sl (E.GRule.L x.1)))), .val (.agg ((GRule.cs x.2.1).map R.c)), .val (.one (.c (.str x.2.2.1))), .val (.agg ((GVal.cs x.2.2.2.1).map R.c)), .val (.one (.c (.int .i64 x.2.2.2.2)))]
  caps := fun x => []
  res := Try.x21.res
  outs := Try.x21.outs
  R := fun x y => Runs (Try.a21 x.1 x.2.1 x.2.2.1 x.2.2.2.1 x.2.2.2.2) (KOf (fun j => Ev (Try.c21) j y) y)
  ok := fun x y h => sys_ok (cx := Try.x21) (body := Try.b21) Try.follow Try.func21 (by kernel_rfl) (by kernel_rfl) (by kernel_rfl) (by kernel_rfl) _ (Nat.le_of_ble_eq_true rfl) (by kernel_rfl) _ (Try.h21 x.1 x.2.1 x.2.2.1 x.2.2.2.1 x.2.2.2.2) (Try.g21) y h
  flat := true
  hflat := fun _ _ => flatE rfl
end Go.Proofs
