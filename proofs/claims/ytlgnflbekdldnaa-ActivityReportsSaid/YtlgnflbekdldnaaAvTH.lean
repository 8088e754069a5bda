/- Printed by pr.py. -/
import Derived.Test.YtlgnflbekdldnaaAvE8
import Derived.Test.YtlgnflbekdldnaaAvTRa
set_option linter.unusedVariables false
set_option maxRecDepth 100000
set_option maxHeartbeats 2000000
namespace Go.Proofs
open Go Go.AV
/-! ### 236 workflow/hash.put -/
inductive Try.J236 where
  | s0 (b_t0 : List Int) (n_t1 : Int) (shift_t5 : Int)
noncomputable def Try.b236 : Code := Try.f236.body.getD .skip
noncomputable def Try.x236 : Cx Try.J236 (List Int) where
  nt := 18
  rvs := [.tmp 4]
  mh := []
  res := fun y => [.one (.own 5 1 (E.u8.L y))]
  outs := fun y => []
  path := fun
    | .s0 _ _ _ => [0, 1, 0, 1]
  sig := fun
    | .s0 _ _ _ => [0, 1, 5]
  snap := fun
    | .s0 b_t0 n_t1 shift_t5 => ⟨[(0, .one (.own 0 1)), (1, .one (.c (.int .i64 n_t1))), (5, .one (.c (.int .i64 shift_t5)))], [((0, 1), .arr 5 1 (E.u8.L b_t0))]⟩
noncomputable def Try.a236 (b_0 : List Int) (n_1 : Int) : Cert Try.prog Try.J236 (List Int) :=
    .jump (.s0 b_0 n_1 56) [(0, 0)]
noncomputable def Try.c236 : Try.J236 → Cert Try.prog Try.J236 (List Int)
  | .s0 b_t0 n_t1 shift_t5 =>
    .ite 7 (decide (0 ≤ shift_t5))
    (.shf shift_t5 <|
    .bld E.u8 [(IntKind.u8.wrap (Int.fdiv n_t1 (2 ^ (min (shift_t5 : Int).toNat 64))))] <|
    .app E.u8 1 b_t0 [(IntKind.u8.wrap (Int.fdiv n_t1 (2 ^ (min (shift_t5 : Int).toNat 64))))] <|
    .jump (.s0 (b_t0 ++ [(IntKind.u8.wrap (Int.fdiv n_t1 (2 ^ (min (shift_t5 : Int).toNat 64))))]) n_t1 (IntKind.i64.wrap (shift_t5 - 8))) [(16000, 2)])
    (.ret b_t0)
theorem Try.h236 (b_0 : List Int) (n_1 : Int) : execC Try.prog Try.x236 Try.b236 [] (topC Try.prog Try.x236) (Try.a236 b_0 n_1) (ES.init [.val (.one (.own 5 1 (E.u8.L b_0))), .val (.one (.c (.int .i64 n_1)))]) :=
  of_triv (rs := Try.x236.rs) (snap := Try.x236.snap) (c := Try.a236 b_0 n_1) (by kernel_rfl)
theorem Try.g236 : ∀ j, chkAt Try.prog Try.x236 Try.b236 (Try.x236.path j) (Try.c236 j) (Try.x236.snap j).es
  | .s0 b_t0 n_t1 shift_t5 => of_triv (rs := Try.x236.rs) (snap := Try.x236.snap) (c := Try.c236 (.s0 b_t0 n_t1 shift_t5)) (by kernel_rfl)
noncomputable def Try.m236 : Mir Try.prog 236 ((List Int) × Int) (List Int) where
  fs := [.one (some (5, 1)), .one none]
  ga := fun x => [.val (.one (.own 5 1 (E.u8.L x.1))), .val (.one (.c (.int .i64 x.2)))]
  caps := fun x => []
  res := Try.x236.res
  outs := Try.x236.outs
  R := fun x y => Runs (Try.a236 x.1 x.2) (KOf (fun j => Ev (Try.c236) j y) y)
  ok := fun x y h => sys_ok (cx := Try.x236) (body := Try.b236) Try.follow Try.func236 (by kernel_rfl) (by kernel_rfl) (by kernel_rfl) (by kernel_rfl) _ (Nat.le_of_ble_eq_true rfl) (by kernel_rfl) _ (Try.h236 x.1 x.2) (Try.g236) y h
  flat := false
  hflat := fun h => nomatch h
/-! ### 235 workflow/hash.Fnv -/
inductive Try.J235 where
  | s0 (s_t0 : ByteArray) (h_t3 : Int) (t6 : Int) (t7 : Int)
noncomputable def Try.b235 : Code := Try.f235.body.getD .skip
noncomputable def Try.x235 : Cx Try.J235 Int where
  nt := 20
  rvs := [.tmp 2]
  mh := []
  res := fun y => [.one (.c (.int .i64 y))]
  outs := fun y => []
  path := fun
    | .s0 _ _ _ _ => [0, 1, 0, 1, 1]
  sig := fun
    | .s0 _ _ _ _ => [0, 3, 6, 7]
  snap := fun
    | .s0 s_t0 h_t3 t6 t7 => ⟨[(0, .one (.c (.str s_t0))), (3, .one (.c (.int .u32 h_t3))), (6, .one (.c (.int .i64 t6))), (7, .one (.c (.int .i64 t7)))], []⟩
noncomputable def Try.a235 (s_0 : ByteArray) : Cert Try.prog Try.J235 Int :=
    .jump (.s0 s_0 2166136261 (s_0.size : Int) 0) []
noncomputable def Try.c235 : Try.J235 → Cert Try.prog Try.J235 Int
  | .s0 s_t0 h_t3 t6 t7 =>
    .ite 8 (decide (t7 < t6))
    (.byte s_t0 t7 <|
    .jump (.s0 s_t0 (IntKind.u32.wrap ((IntKind.u32.wrap ((BitVec.ofInt 32 h_t3 ^^^ BitVec.ofInt 32 (IntKind.u32.wrap (byteAt s_t0 t7.toNat))).toNat : Nat)) * 16777619)) t6 (IntKind.i64.wrap (t7 + 1))) [])
    (.ret (IntKind.i64.wrap h_t3))
theorem Try.h235 (s_0 : ByteArray) : execC Try.prog Try.x235 Try.b235 [] (topC Try.prog Try.x235) (Try.a235 s_0) (ES.init [.val (.one (.c (.str s_0)))]) :=
  of_triv (rs := Try.x235.rs) (snap := Try.x235.snap) (c := Try.a235 s_0) (by kernel_rfl)
theorem Try.g235 : ∀ j, chkAt Try.prog Try.x235 Try.b235 (Try.x235.path j) (Try.c235 j) (Try.x235.snap j).es
  | .s0 s_t0 h_t3 t6 t7 => of_triv (rs := Try.x235.rs) (snap := Try.x235.snap) (c := Try.c235 (.s0 s_t0 h_t3 t6 t7)) (by kernel_rfl)
noncomputable def Try.m235 : Mir Try.prog 235 ByteArray Int where
  fs := [.one none]
  ga := fun x => [.val (.one (.c (.str x)))]
  caps := fun x => []
  res := Try.x235.res
  outs := Try.x235.outs
  R := fun x y => Runs (Try.a235 x) (KOf (fun j => Ev (Try.c235) j y) y)
  ok := fun x y h => sys_ok (cx := Try.x235) (body := Try.b235) Try.follow Try.func235 (by kernel_rfl) (by kernel_rfl) (by kernel_rfl) (by kernel_rfl) _ (Nat.le_of_ble_eq_true rfl) (by kernel_rfl) _ (Try.h235 x) (Try.g235) y h
  flat := true
  hflat := fun _ _ => flatE rfl
/-! ### 229 workflow/hash.Mix -/
noncomputable def Try.b229 : Code := Try.f229.body.getD .skip
noncomputable def Try.x229 : Cx Empty Int where
  nt := 12
  rvs := [.tmp 4]
  mh := []
  res := fun y => [.one (.c (.int .i64 y))]
  outs := fun y => []
  path := fun j => nomatch j
  sig := fun j => nomatch j
  snap := fun j => nomatch j
noncomputable def Try.a229 (a_0 : Int) (b_1 : Int) : Cert Try.prog Empty Int :=
    .call Try.m236 ([], a_0) fun r1 =>
    .call Try.m236 (r1, b_1) fun r2 =>
    .frzo 9 8000 1 <|
    .unby r2 <|
    .call Try.m235 (strOfNums r2) fun r3 =>
    .ret (IntKind.i64.wrap ((BitVec.ofInt 64 r3 &&& BitVec.ofInt 64 2147483647).toNat : Nat))
noncomputable def Try.c229 : Empty → Cert Try.prog Empty Int := fun j => nomatch j
theorem Try.h229 (a_0 : Int) (b_1 : Int) : execC Try.prog Try.x229 Try.b229 [] (topC Try.prog Try.x229) (Try.a229 a_0 b_1) (ES.init [.val (.one (.c (.int .i64 a_0))), .val (.one (.c (.int .i64 b_1)))]) :=
  of_triv (rs := Try.x229.rs) (snap := Try.x229.snap) (c := Try.a229 a_0 b_1) (by kernel_rfl)
theorem Try.g229 : ∀ j, chkAt Try.prog Try.x229 Try.b229 (Try.x229.path j) (Try.c229 j) (Try.x229.snap j).es := fun j => nomatch j
noncomputable def Try.m229 : Mir Try.prog 229 (Int × Int) Int where
  fs := [.one none, .one none]
  ga := fun x => [.val (.one (.c (.int .i64 x.1))), .val (.one (.c (.int .i64 x.2)))]
  caps := fun x => []
  res := Try.x229.res
  outs := Try.x229.outs
  R := fun x y => Runs (Try.a229 x.1 x.2) (KOf (fun j => Ev (Try.c229) j y) y)
  ok := fun x y h => sys_ok (cx := Try.x229) (body := Try.b229) Try.follow Try.func229 (by kernel_rfl) (by kernel_rfl) (by kernel_rfl) (by kernel_rfl) _ (Nat.le_of_ble_eq_true rfl) (by kernel_rfl) _ (Try.h229 x.1 x.2) (Try.g229) y h
  flat := true
  hflat := fun _ _ => flatE rfl
/-! ### 215 workflow/draw.Draw -/
noncomputable def Try.b215 : Code := Try.f215.body.getD .skip
noncomputable def Try.x215 : Cx Empty Int where
  nt := 8
  rvs := [.tmp 4]
  mh := []
  res := fun y => [.one (.c (.int .i64 y))]
  outs := fun y => []
  path := fun j => nomatch j
  sig := fun j => nomatch j
  snap := fun j => nomatch j
noncomputable def Try.a215 (seed_0 : Int) (k_1 : Int) : Cert Try.prog Empty Int :=
    .call Try.m229 (seed_0, k_1) fun r1 =>
    .ret r1
noncomputable def Try.c215 : Empty → Cert Try.prog Empty Int := fun j => nomatch j
theorem Try.h215 (seed_0 : Int) (k_1 : Int) : execC Try.prog Try.x215 Try.b215 [] (topC Try.prog Try.x215) (Try.a215 seed_0 k_1) (ES.init [.val (.one (.c (.int .i64 seed_0))), .val (.one (.c (.int .i64 k_1)))]) :=
  of_triv (rs := Try.x215.rs) (snap := Try.x215.snap) (c := Try.a215 seed_0 k_1) (by kernel_rfl)
theorem Try.g215 : ∀ j, chkAt Try.prog Try.x215 Try.b215 (Try.x215.path j) (Try.c215 j) (Try.x215.snap j).es := fun j => nomatch j
noncomputable def Try.m215 : Mir Try.prog 215 (Int × Int) Int where
  fs := [.one none, .one none]
  ga := fun x => [.val (.one (.c (.int .i64 x.1))), .val (.one (.c (.int .i64 x.2)))]
  caps := fun x => []
  res := Try.x215.res
  outs := Try.x215.outs
  R := fun x y => Runs (Try.a215 x.1 x.2) (KOf (fun j => Ev (Try.c215) j y) y)
  ok := fun x y h => sys_ok (cx := Try.x215) (body := Try.b215) Try.follow Try.func215 (by kernel_rfl) (by kernel_rfl) (by kernel_rfl) (by kernel_rfl) _ (Nat.le_of_ble_eq_true rfl) (by kernel_rfl) _ (Try.h215 x.1 x.2) (Try.g215) y h
  flat := true
  hflat := fun _ _ => flatE rfl
/-! ### 190 workflow/draw.Below -/
noncomputable def Try.b190 : Code := Try.f190.body.getD .skip
noncomputable def Try.x190 : Cx Empty Int where
  nt := 14
  rvs := [.tmp 6]
  mh := []
  res := fun y => [.one (.c (.int .i64 y))]
  outs := fun y => []
  path := fun j => nomatch j
  sig := fun j => nomatch j
  snap := fun j => nomatch j
noncomputable def Try.a190 (seed_0 : Int) (k_1 : Int) (n_2 : Int) : Cert Try.prog Empty Int :=
    .ite 8 (decide (n_2 < 1))
    (.ret 0)
    (.call Try.m215 (seed_0, k_1) fun r1 =>
    .dvd n_2 <|
    .ret (Int.tmod r1 n_2))
noncomputable def Try.c190 : Empty → Cert Try.prog Empty Int := fun j => nomatch j
theorem Try.h190 (seed_0 : Int) (k_1 : Int) (n_2 : Int) : execC Try.prog Try.x190 Try.b190 [] (topC Try.prog Try.x190) (Try.a190 seed_0 k_1 n_2) (ES.init [.val (.one (.c (.int .i64 seed_0))), .val (.one (.c (.int .i64 k_1))), .val (.one (.c (.int .i64 n_2)))]) :=
  of_triv (rs := Try.x190.rs) (snap := Try.x190.snap) (c := Try.a190 seed_0 k_1 n_2) (by kernel_rfl)
theorem Try.g190 : ∀ j, chkAt Try.prog Try.x190 Try.b190 (Try.x190.path j) (Try.c190 j) (Try.x190.snap j).es := fun j => nomatch j
noncomputable def Try.m190 : Mir Try.prog 190 (Int × Int × Int) Int where
  fs := [.one none, .one none, .one none]
  ga := fun x => [.val (.one (.c (.int .i64 x.1))), .val (.one (.c (.int .i64 x.2.1))), .val (.one (.c (.int .i64 x.2.2)))]
  caps := fun x => []
  res := Try.x190.res
  outs := Try.x190.outs
  R := fun x y => Runs (Try.a190 x.1 x.2.1 x.2.2) (KOf (fun j => Ev (Try.c190) j y) y)
  ok := fun x y h => sys_ok (cx := Try.x190) (body := Try.b190) Try.follow Try.func190 (by kernel_rfl) (by kernel_rfl) (by kernel_rfl) (by kernel_rfl) _ (Nat.le_of_ble_eq_true rfl) (by kernel_rfl) _ (Try.h190 x.1 x.2.1 x.2.2) (Try.g190) y h
  flat := true
  hflat := fun _ _ => flatE rfl
/-! ### 131 workflow/draw.Jitter -/
noncomputable def Try.b131 : Code := Try.f131.body.getD .skip
noncomputable def Try.x131 : Cx Empty Int where
  nt := 36
  rvs := [.tmp 8]
  mh := []
  res := fun y => [.one (.c (.int .i64 y))]
  outs := fun y => []
  path := fun j => nomatch j
  sig := fun j => nomatch j
  snap := fun j => nomatch j
noncomputable def Try.a131 (seed_0 : Int) (k_1 : Int) (base_2 : Int) (percent_3 : Int) : Cert Try.prog Empty Int :=
    .ite 11 (decide (base_2 < 0))
    (.ret base_2)
    (.ite 15 (decide (1099511627776 < base_2))
    (.ret base_2)
    (.ite 19 (decide (percent_3 < 0))
    (.ret base_2)
    (.ite 22 (decide (100 < percent_3))
    (.ret base_2)
    (.call Try.m190 (seed_0, k_1, (IntKind.i64.wrap ((IntKind.i64.wrap (2 * percent_3)) + 1))) fun r1 =>
    .dvd 100 <|
    .ret (IntKind.i64.wrap (Int.tdiv (IntKind.i64.wrap (base_2 * (IntKind.i64.wrap ((IntKind.i64.wrap (100 - percent_3)) + r1)))) 100))))))
noncomputable def Try.c131 : Empty → Cert Try.prog Empty Int := fun j => nomatch j
theorem Try.h131 (seed_0 : Int) (k_1 : Int) (base_2 : Int) (percent_3 : Int) : execC Try.prog Try.x131 Try.b131 [] (topC Try.prog Try.x131) (Try.a131 seed_0 k_1 base_2 percent_3) (ES.init [.val (.one (.c (.int .i64 seed_0))), .val (.one (.c (.int .i64 k_1))), .val (.one (.c (.int .i64 base_2))), .val (.one (.c (.int .i64 percent_3)))]) :=
  of_triv (rs := Try.x131.rs) (snap := Try.x131.snap) (c := Try.a131 seed_0 k_1 base_2 percent_3) (by kernel_rfl)
theorem Try.g131 : ∀ j, chkAt Try.prog Try.x131 Try.b131 (Try.x131.path j) (Try.c131 j) (Try.x131.snap j).es := fun j => nomatch j
noncomputable def Try.m131 : Mir Try.prog 131 (Int × Int × Int × Int) Int where
  fs := [.one none, .one none, .one none, .one none]
  ga := fun x => [.val (.one (.c (.int .i64 x.1))), .val (.one (.c (.int .i64 x.2.1))), .val (.one (.c (.int .i64 x.2.2.1))), .val (.one (.c (.int .i64 x.2.2.2)))]
  caps := fun x => []
  res := Try.x131.res
  outs := Try.x131.outs
  R := fun x y => Runs (Try.a131 x.1 x.2.1 x.2.2.1 x.2.2.2) (KOf (fun j => Ev (Try.c131) j y) y)
  ok := fun x y h => sys_ok (cx := Try.x131) (body := Try.b131) Try.follow Try.func131 (by kernel_rfl) (by kernel_rfl) (by kernel_rfl) (by kernel_rfl) _ (Nat.le_of_ble_eq_true rfl) (by kernel_rfl) _ (Try.h131 x.1 x.2.1 x.2.2.1 x.2.2.2) (Try.g131) y h
  flat := true
  hflat := fun _ _ => flatE rfl
/-! ### 230 workflow/workflowref05.eight -/
inductive Try.J230 where
  | s0 (b_t3 : List Int) (u_t4 : Int) (i_t5 : Int)
noncomputable def Try.b230 : Code := Try.f230.body.getD .skip
noncomputable def Try.x230 : Cx Try.J230 (List Int) where
  nt := 22
  rvs := [.tmp 2]
  mh := []
  res := fun y => [.one (.own 5 1 (E.u8.L y))]
  outs := fun y => []
  path := fun
    | .s0 _ _ _ => [0, 1, 0, 1, 1, 1]
  sig := fun
    | .s0 _ _ _ => [3, 4, 5]
  snap := fun
    | .s0 b_t3 u_t4 i_t5 => ⟨[(3, .one (.own 0 1)), (4, .one (.c (.int .u64 u_t4))), (5, .one (.c (.int .i64 i_t5)))], [((0, 1), .arr 5 1 (E.u8.L b_t3))]⟩
noncomputable def Try.a230 (n_0 : Int) : Cert Try.prog Try.J230 (List Int) :=
    .mks E.u8 (List.replicate 8 0) <|
    .jump (.s0 (List.replicate 8 0) (IntKind.u64.wrap n_0) 7) [(6000, 1)]
noncomputable def Try.c230 : Try.J230 → Cert Try.prog Try.J230 (List Int)
  | .s0 b_t3 u_t4 i_t5 =>
    .ite 10 (decide (0 ≤ i_t5))
    (.dvd 256 <|
    .idx E.u8 b_t3 i_t5 <|
    .eset E.u8 b_t3 i_t5.toNat (fun _ => (IntKind.u8.wrap (Int.tmod u_t4 256))) <|
    .dvd 256 <|
    .jump (.s0 (b_t3.modify i_t5.toNat (fun _ => (IntKind.u8.wrap (Int.tmod u_t4 256)))) (IntKind.u64.wrap (Int.tdiv u_t4 256)) (IntKind.i64.wrap (i_t5 - 1))) [(0, 1)])
    (.ret b_t3)
theorem Try.h230 (n_0 : Int) : execC Try.prog Try.x230 Try.b230 [] (topC Try.prog Try.x230) (Try.a230 n_0) (ES.init [.val (.one (.c (.int .i64 n_0)))]) :=
  of_triv (rs := Try.x230.rs) (snap := Try.x230.snap) (c := Try.a230 n_0) (by kernel_rfl)
theorem Try.g230 : ∀ j, chkAt Try.prog Try.x230 Try.b230 (Try.x230.path j) (Try.c230 j) (Try.x230.snap j).es
  | .s0 b_t3 u_t4 i_t5 => of_triv (rs := Try.x230.rs) (snap := Try.x230.snap) (c := Try.c230 (.s0 b_t3 u_t4 i_t5)) (by kernel_rfl)
noncomputable def Try.m230 : Mir Try.prog 230 Int (List Int) where
  fs := [.one none]
  ga := fun x => [.val (.one (.c (.int .i64 x)))]
  caps := fun x => []
  res := Try.x230.res
  outs := Try.x230.outs
  R := fun x y => Runs (Try.a230 x) (KOf (fun j => Ev (Try.c230) j y) y)
  ok := fun x y h => sys_ok (cx := Try.x230) (body := Try.b230) Try.follow Try.func230 (by kernel_rfl) (by kernel_rfl) (by kernel_rfl) (by kernel_rfl) _ (Nat.le_of_ble_eq_true rfl) (by kernel_rfl) _ (Try.h230 x) (Try.g230) y h
  flat := false
  hflat := fun h => nomatch h
/-! ### 237 workflow/workflowref05.times -/
inductive Try.J237 where
  | s0 (a_t0 : Int) (b_t1 : Int) (out_t5 : Int)
  | s1 (a_t0 : Int) (b_t1 : Int) (out_t5 : Int)
noncomputable def Try.b237 : Code := Try.f237.body.getD .skip
noncomputable def Try.x237 : Cx Try.J237 Int where
  nt := 21
  rvs := [.tmp 4]
  mh := []
  res := fun y => [.one (.c (.int .u64 y))]
  outs := fun y => []
  path := fun
    | .s0 _ _ _ => [0, 0, 1, 1]
    | .s1 _ _ _ => [1, 0, 1, 0, 0, 0, 1, 1]
  sig := fun
    | .s0 _ _ _ => [0, 1, 5]
    | .s1 _ _ _ => [0, 1, 5]
  snap := fun
    | .s0 a_t0 b_t1 out_t5 => ⟨[(0, .one (.c (.int .u64 a_t0))), (1, .one (.c (.int .u64 b_t1))), (5, .one (.c (.int .u64 out_t5)))], []⟩
    | .s1 a_t0 b_t1 out_t5 => ⟨[(0, .one (.c (.int .u64 a_t0))), (1, .one (.c (.int .u64 b_t1))), (5, .one (.c (.int .u64 out_t5)))], []⟩
noncomputable def Try.a237 (a_0 : Int) (b_1 : Int) : Cert Try.prog Try.J237 Int :=
    .jump (.s0 a_0 b_1 0) []
noncomputable def Try.c237 : Try.J237 → Cert Try.prog Try.J237 Int
  | .s0 a_t0 b_t1 out_t5 =>
    .ite 7 (decide (0 < b_t1))
    (.dvd 2 <|
    .ite 10 ((Int.tmod b_t1 2) == 1)
    (.dvd 4294967296 <|
    .jump (.s1 a_t0 b_t1 (Int.tmod (IntKind.u64.wrap (out_t5 + a_t0)) 4294967296)) [])
    (.jump (.s1 a_t0 b_t1 out_t5) []))
    (.ret out_t5)
  | .s1 a_t0 b_t1 out_t5 =>
    .dvd 4294967296 <|
    .dvd 2 <|
    .jump (.s0 (Int.tmod (IntKind.u64.wrap (a_t0 * 2)) 4294967296) (IntKind.u64.wrap (Int.tdiv b_t1 2)) out_t5) []
theorem Try.h237 (a_0 : Int) (b_1 : Int) : execC Try.prog Try.x237 Try.b237 [] (topC Try.prog Try.x237) (Try.a237 a_0 b_1) (ES.init [.val (.one (.c (.int .u64 a_0))), .val (.one (.c (.int .u64 b_1)))]) :=
  of_triv (rs := Try.x237.rs) (snap := Try.x237.snap) (c := Try.a237 a_0 b_1) (by kernel_rfl)
theorem Try.g237 : ∀ j, chkAt Try.prog Try.x237 Try.b237 (Try.x237.path j) (Try.c237 j) (Try.x237.snap j).es
  | .s0 a_t0 b_t1 out_t5 => of_triv (rs := Try.x237.rs) (snap := Try.x237.snap) (c := Try.c237 (.s0 a_t0 b_t1 out_t5)) (by kernel_rfl)
  | .s1 a_t0 b_t1 out_t5 => of_triv (rs := Try.x237.rs) (snap := Try.x237.snap) (c := Try.c237 (.s1 a_t0 b_t1 out_t5)) (by kernel_rfl)
noncomputable def Try.m237 : Mir Try.prog 237 (Int × Int) Int where
  fs := [.one none, .one none]
  ga := fun x => [.val (.one (.c (.int .u64 x.1))), .val (.one (.c (.int .u64 x.2)))]
  caps := fun x => []
  res := Try.x237.res
  outs := Try.x237.outs
  R := fun x y => Runs (Try.a237 x.1 x.2) (KOf (fun j => Ev (Try.c237) j y) y)
  ok := fun x y h => sys_ok (cx := Try.x237) (body := Try.b237) Try.follow Try.func237 (by kernel_rfl) (by kernel_rfl) (by kernel_rfl) (by kernel_rfl) _ (Nat.le_of_ble_eq_true rfl) (by kernel_rfl) _ (Try.h237 x.1 x.2) (Try.g237) y h
  flat := true
  hflat := fun _ _ => flatE rfl
/-! ### 231 workflow/workflowref05.Fnv -/
inductive Try.J231 where
  | s0 (b_t0 : List Int) (h_t3 : Int) (i_t4 : Int)
noncomputable def Try.b231 : Code := Try.f231.body.getD .skip
noncomputable def Try.x231 : Cx Try.J231 Int where
  nt := 27
  rvs := [.tmp 2]
  mh := []
  res := fun y => [.one (.c (.int .i64 y))]
  outs := fun y => []
  path := fun
    | .s0 _ _ _ => [0, 1, 0, 1, 1]
  sig := fun
    | .s0 _ _ _ => [0, 3, 4]
  snap := fun
    | .s0 b_t0 h_t3 i_t4 => ⟨[(0, .one (.c (.sl (E.u8.L b_t0)))), (3, .one (.c (.int .u64 h_t3))), (4, .one (.c (.int .i64 i_t4)))], []⟩
noncomputable def Try.a231 (b_0 : List Int) : Cert Try.prog Try.J231 Int :=
    .jump (.s0 b_0 2166136261 0) []
noncomputable def Try.c231 : Try.J231 → Cert Try.prog Try.J231 Int
  | .s0 b_t0 h_t3 i_t4 =>
    .len E.u8 b_t0 <|
    .ite 8 (decide (i_t4 < (b_t0.length : Int)))
    (.dvd 256 <|
    .elem E.u8 b_t0 i_t4 fun a1 =>
    .call Try.m237 ((IntKind.u64.wrap ((IntKind.u64.wrap ((IntKind.u64.wrap (Int.tdiv h_t3 256)) * 256)) + (IntKind.u64.wrap (IntKind.u8.wrap ((BitVec.ofInt 8 (IntKind.u8.wrap h_t3) ^^^ BitVec.ofInt 8 a1).toNat : Nat))))), 16777619) fun r2 =>
    .jump (.s0 b_t0 r2 (IntKind.i64.wrap (i_t4 + 1))) [])
    (.ret (IntKind.i64.wrap h_t3))
theorem Try.h231 (b_0 : List Int) : execC Try.prog Try.x231 Try.b231 [] (topC Try.prog Try.x231) (Try.a231 b_0) (ES.init [.val (.one (.c (.sl (E.u8.L b_0))))]) :=
  of_triv (rs := Try.x231.rs) (snap := Try.x231.snap) (c := Try.a231 b_0) (by kernel_rfl)
theorem Try.g231 : ∀ j, chkAt Try.prog Try.x231 Try.b231 (Try.x231.path j) (Try.c231 j) (Try.x231.snap j).es
  | .s0 b_t0 h_t3 i_t4 => of_triv (rs := Try.x231.rs) (snap := Try.x231.snap) (c := Try.c231 (.s0 b_t0 h_t3 i_t4)) (by kernel_rfl)
noncomputable def Try.m231 : Mir Try.prog 231 (List Int) Int where
  fs := [.one none]
  ga := fun x => [.val (.one (.c (.sl (E.u8.L x))))]
  caps := fun x => []
  res := Try.x231.res
  outs := Try.x231.outs
  R := fun x y => Runs (Try.a231 x) (KOf (fun j => Ev (Try.c231) j y) y)
  ok := fun x y h => sys_ok (cx := Try.x231) (body := Try.b231) Try.follow Try.func231 (by kernel_rfl) (by kernel_rfl) (by kernel_rfl) (by kernel_rfl) _ (Nat.le_of_ble_eq_true rfl) (by kernel_rfl) _ (Try.h231 x) (Try.g231) y h
  flat := true
  hflat := fun _ _ => flatE rfl
/-! ### 216 workflow/workflowref05.Draw -/
noncomputable def Try.b216 : Code := Try.f216.body.getD .skip
noncomputable def Try.x216 : Cx Empty Int where
  nt := 15
  rvs := [.tmp 4]
  mh := []
  res := fun y => [.one (.c (.int .i64 y))]
  outs := fun y => []
  path := fun j => nomatch j
  sig := fun j => nomatch j
  snap := fun j => nomatch j
noncomputable def Try.a216 (seed_0 : Int) (k_1 : Int) : Cert Try.prog Empty Int :=
    .call Try.m230 seed_0 fun r1 =>
    .call Try.m230 k_1 fun r2 =>
    .app E.u8 1 r1 r2 <|
    .call Try.m231 (r1 ++ r2) fun r3 =>
    .dvd 2147483648 <|
    .ret (Int.tmod r3 2147483648)
noncomputable def Try.c216 : Empty → Cert Try.prog Empty Int := fun j => nomatch j
theorem Try.h216 (seed_0 : Int) (k_1 : Int) : execC Try.prog Try.x216 Try.b216 [] (topC Try.prog Try.x216) (Try.a216 seed_0 k_1) (ES.init [.val (.one (.c (.int .i64 seed_0))), .val (.one (.c (.int .i64 k_1)))]) :=
  of_triv (rs := Try.x216.rs) (snap := Try.x216.snap) (c := Try.a216 seed_0 k_1) (by kernel_rfl)
theorem Try.g216 : ∀ j, chkAt Try.prog Try.x216 Try.b216 (Try.x216.path j) (Try.c216 j) (Try.x216.snap j).es := fun j => nomatch j
noncomputable def Try.m216 : Mir Try.prog 216 (Int × Int) Int where
  fs := [.one none, .one none]
  ga := fun x => [.val (.one (.c (.int .i64 x.1))), .val (.one (.c (.int .i64 x.2)))]
  caps := fun x => []
  res := Try.x216.res
  outs := Try.x216.outs
  R := fun x y => Runs (Try.a216 x.1 x.2) (KOf (fun j => Ev (Try.c216) j y) y)
  ok := fun x y h => sys_ok (cx := Try.x216) (body := Try.b216) Try.follow Try.func216 (by kernel_rfl) (by kernel_rfl) (by kernel_rfl) (by kernel_rfl) _ (Nat.le_of_ble_eq_true rfl) (by kernel_rfl) _ (Try.h216 x.1 x.2) (Try.g216) y h
  flat := true
  hflat := fun _ _ => flatE rfl
/-! ### 191 workflow/workflowref05.Below -/
noncomputable def Try.b191 : Code := Try.f191.body.getD .skip
noncomputable def Try.x191 : Cx Empty Int where
  nt := 14
  rvs := [.tmp 6]
  mh := []
  res := fun y => [.one (.c (.int .i64 y))]
  outs := fun y => []
  path := fun j => nomatch j
  sig := fun j => nomatch j
  snap := fun j => nomatch j
noncomputable def Try.a191 (seed_0 : Int) (k_1 : Int) (n_2 : Int) : Cert Try.prog Empty Int :=
    .ite 8 (decide (n_2 < 1))
    (.ret 0)
    (.call Try.m216 (seed_0, k_1) fun r1 =>
    .dvd n_2 <|
    .ret (Int.tmod r1 n_2))
noncomputable def Try.c191 : Empty → Cert Try.prog Empty Int := fun j => nomatch j
theorem Try.h191 (seed_0 : Int) (k_1 : Int) (n_2 : Int) : execC Try.prog Try.x191 Try.b191 [] (topC Try.prog Try.x191) (Try.a191 seed_0 k_1 n_2) (ES.init [.val (.one (.c (.int .i64 seed_0))), .val (.one (.c (.int .i64 k_1))), .val (.one (.c (.int .i64 n_2)))]) :=
  of_triv (rs := Try.x191.rs) (snap := Try.x191.snap) (c := Try.a191 seed_0 k_1 n_2) (by kernel_rfl)
theorem Try.g191 : ∀ j, chkAt Try.prog Try.x191 Try.b191 (Try.x191.path j) (Try.c191 j) (Try.x191.snap j).es := fun j => nomatch j
noncomputable def Try.m191 : Mir Try.prog 191 (Int × Int × Int) Int where
  fs := [.one none, .one none, .one none]
  ga := fun x => [.val (.one (.c (.int .i64 x.1))), .val (.one (.c (.int .i64 x.2.1))), .val (.one (.c (.int .i64 x.2.2)))]
  caps := fun x => []
  res := Try.x191.res
  outs := Try.x191.outs
  R := fun x y => Runs (Try.a191 x.1 x.2.1 x.2.2) (KOf (fun j => Ev (Try.c191) j y) y)
  ok := fun x y h => sys_ok (cx := Try.x191) (body := Try.b191) Try.follow Try.func191 (by kernel_rfl) (by kernel_rfl) (by kernel_rfl) (by kernel_rfl) _ (Nat.le_of_ble_eq_true rfl) (by kernel_rfl) _ (Try.h191 x.1 x.2.1 x.2.2) (Try.g191) y h
  flat := true
  hflat := fun _ _ => flatE rfl
/-! ### 132 workflow/workflowref05.Jitter -/
noncomputable def Try.b132 : Code := Try.f132.body.getD .skip
noncomputable def Try.x132 : Cx Empty Int where
  nt := 46
  rvs := [.tmp 8]
  mh := []
  res := fun y => [.one (.c (.int .i64 y))]
  outs := fun y => []
  path := fun j => nomatch j
  sig := fun j => nomatch j
  snap := fun j => nomatch j
noncomputable def Try.a132 (seed_0 : Int) (k_1 : Int) (base_2 : Int) (percent_3 : Int) : Cert Try.prog Empty Int :=
    .ite 13 (decide (base_2 < 0))
    (.ret base_2)
    (.ite 17 (decide (1099511627776 < base_2))
    (.ret base_2)
    (.ite 21 (decide (percent_3 < 0))
    (.ret base_2)
    (.ite 24 (decide (100 < percent_3))
    (.ret base_2)
    (.call Try.m191 (seed_0, k_1, (IntKind.i64.wrap ((IntKind.i64.wrap (2 * percent_3)) + 1))) fun r1 =>
    .dvd 100 <|
    .dvd 100 <|
    .dvd 100 <|
    .ret (IntKind.i64.wrap ((IntKind.i64.wrap ((IntKind.i64.wrap (Int.tdiv base_2 100)) * (IntKind.i64.wrap ((IntKind.i64.wrap (100 - percent_3)) + r1)))) + (IntKind.i64.wrap (Int.tdiv (IntKind.i64.wrap ((Int.tmod base_2 100) * (IntKind.i64.wrap ((IntKind.i64.wrap (100 - percent_3)) + r1)))) 100))))))))
noncomputable def Try.c132 : Empty → Cert Try.prog Empty Int := fun j => nomatch j
theorem Try.h132 (seed_0 : Int) (k_1 : Int) (base_2 : Int) (percent_3 : Int) : execC Try.prog Try.x132 Try.b132 [] (topC Try.prog Try.x132) (Try.a132 seed_0 k_1 base_2 percent_3) (ES.init [.val (.one (.c (.int .i64 seed_0))), .val (.one (.c (.int .i64 k_1))), .val (.one (.c (.int .i64 base_2))), .val (.one (.c (.int .i64 percent_3)))]) :=
  of_triv (rs := Try.x132.rs) (snap := Try.x132.snap) (c := Try.a132 seed_0 k_1 base_2 percent_3) (by kernel_rfl)
theorem Try.g132 : ∀ j, chkAt Try.prog Try.x132 Try.b132 (Try.x132.path j) (Try.c132 j) (Try.x132.snap j).es := fun j => nomatch j
noncomputable def Try.m132 : Mir Try.prog 132 (Int × Int × Int × Int) Int where
  fs := [.one none, .one none, .one none, .one none]
  ga := fun x => [.val (.one (.c (.int .i64 x.1))), .val (.one (.c (.int .i64 x.2.1))), .val (.one (.c (.int .i64 x.2.2.1))), .val (.one (.c (.int .i64 x.2.2.2)))]
  caps := fun x => []
  res := Try.x132.res
  outs := Try.x132.outs
  R := fun x y => Runs (Try.a132 x.1 x.2.1 x.2.2.1 x.2.2.2) (KOf (fun j => Ev (Try.c132) j y) y)
  ok := fun x y h => sys_ok (cx := Try.x132) (body := Try.b132) Try.follow Try.func132 (by kernel_rfl) (by kernel_rfl) (by kernel_rfl) (by kernel_rfl) _ (Nat.le_of_ble_eq_true rfl) (by kernel_rfl) _ (Try.h132 x.1 x.2.1 x.2.2.1 x.2.2.2) (Try.g132) y h
  flat := true
  hflat := fun _ _ => flatE rfl
end Go.Proofs
