/- Texts Av5. -/
import Derived.IntWalk
import Derived.Laws.BitsAllLaws
import Derived.Test.YtlgnflbekdldnaaGreatDoorAvK4
set_option linter.unusedVariables false
set_option linter.unusedSimpArgs false
set_option linter.unusedSectionVars false
noncomputable section
namespace Go.AV
open Go.RowKit
theorem wrap_i8 (n : Int) : IntKind.i8.wrap n = (n + 128) % 256 - 128 := by
  simp [IntKind.wrap, IntKind.bits, IntKind.signed]; split <;> omega
theorem wrap_i16 (n : Int) : IntKind.i16.wrap n = (n + 32768) % 65536 - 32768 := by
  simp [IntKind.wrap, IntKind.bits, IntKind.signed]; split <;> omega
theorem wrap_wrap (k : IntKind) (n : Int) : k.wrap (k.wrap n) = k.wrap n := by
  cases k
  · simp only [wrap_i8]; omega
  · simp only [wrap_i16]; omega
  · simp only [IntKind.wrap_i32]; omega
  · simp only [IntKind.wrap_i64]; omega
  · simp only [IntKind.wrap_u8]; omega
  · simp only [IntKind.wrap_u16]; omega
  · simp only [IntKind.wrap_u32]; omega
  · simp only [IntKind.wrap_u64]; omega
def lo : IntKind → Int
  | .i8 => -128 | .i16 => -32768 | .i32 => -2147483648 | .i64 => -9223372036854775808 | _ => 0
def hi : IntKind → Int
  | .i8 => 127 | .i16 => 32767 | .i32 => 2147483647 | .i64 => 9223372036854775807
  | .u8 => 255 | .u16 => 65535 | .u32 => 4294967295 | .u64 => 18446744073709551615
theorem wrap_iff (k : IntKind) (n : Int) : k.wrap n = n ↔ lo k ≤ n ∧ n ≤ hi k := by
  cases k <;> simp only [wrap_i8, wrap_i16, IntKind.wrap_i32, IntKind.wrap_i64, IntKind.wrap_u8, IntKind.wrap_u16, IntKind.wrap_u32, IntKind.wrap_u64, lo, hi] <;> omega
theorem wrap_tmod (k : IntKind) (a b : Int) (h : k.wrap a = a) : k.wrap (a.tmod b) = a.tmod b := by
  rw [wrap_iff] at h ⊢
  have h1 : (a.tmod b).natAbs ≤ a.natAbs := by rw [Int.natAbs_tmod]; exact Nat.mod_le _ _
  rcases Int.le_total 0 a with ha | ha
  · have h2 : 0 ≤ a.tmod b := Int.tmod_nonneg b ha
    have : lo k ≤ 0 := by cases k <;> simp [lo]
    omega
  · have h2 : a.tmod b ≤ 0 := by
      have := Int.tmod_nonneg b (show 0 ≤ -a by omega)
      rw [Int.neg_tmod] at this
      omega
    have : 0 ≤ hi k := by cases k <;> simp [hi]
    omega
theorem wrap_shr (k : IntKind) (a : Int) (n : Nat) (h : k.wrap a = a) : k.wrap (a.fdiv (2 ^ n)) = a.fdiv (2 ^ n) := by
  rw [wrap_iff] at h ⊢
  have hp : (0 : Int) < 2 ^ n := Int.pow_pos (by omega)
  rw [Int.fdiv_eq_ediv_of_nonneg _ (by omega)]
  rcases Int.le_total 0 a with ha | ha
  · have h1 : 0 ≤ a / 2 ^ n := Int.ediv_nonneg ha (by omega)
    have h2 : a / 2 ^ n ≤ a := Int.ediv_le_self _ ha
    have : lo k ≤ 0 := by cases k <;> simp [lo]
    omega
  · have h1 : a / 2 ^ n ≤ 0 := Int.ediv_nonpos_of_nonpos_of_neg ha (by omega)
    have h2 : a ≤ a / 2 ^ n := by
      rw [Int.le_ediv_iff_mul_le hp]
      have : (1 : Int) ≤ 2 ^ n := by omega
      have := Int.mul_le_mul_of_nonpos_left ha this
      omega
    have : 0 ≤ hi k := by cases k <;> simp [hi]
    omega
def strEq (x y : ByteArray) : Bool := x.toList == y.toList
def strLt (x y : ByteArray) : Bool := Op.bytesLess x.toList y.toList
def bitsC (op : BinOp) (k : IntKind) (x y : Int) : Option Int :=
  match op with
  | .and => some (k.wrap (BitVec.ofInt k.bits x &&& BitVec.ofInt k.bits y).toNat)
  | .or => some (k.wrap (BitVec.ofInt k.bits x ||| BitVec.ofInt k.bits y).toNat)
  | .xor => some (k.wrap (BitVec.ofInt k.bits x ^^^ BitVec.ofInt k.bits y).toNat)
  | .andNot => some (k.wrap (BitVec.ofInt k.bits x &&& ~~~BitVec.ofInt k.bits y).toNat)
  | _ => none
def binC (op : BinOp) (x y : C) : Option C :=
  match op, x, y with
  | .shl, .int k a, .int _ b => if b < 0 then none else some (.int k (k.wrap (a * 2 ^ (min b.toNat k.bits))))
  | .shr, .int k a, .int _ b => if b < 0 then none else some (.int k (a.fdiv (2 ^ (min b.toNat k.bits))))
  | .add, .int k a, .int k' b => if k = k' then some (.int k (k.wrap (a + b))) else none
  | .sub, .int k a, .int k' b => if k = k' then some (.int k (k.wrap (a - b))) else none
  | .mul, .int k a, .int k' b => if k = k' then some (.int k (k.wrap (a * b))) else none
  | .quo, .int k a, .int k' b => if k = k' ∧ b ≠ 0 then some (.int k (k.wrap (a.tdiv b))) else none
  | .rem, .int k a, .int k' b => if k = k' ∧ b ≠ 0 then some (.int k (a.tmod b)) else none
  | .eql, .int k a, .int k' b => if k = k' then some (.bool (a == b)) else none
  | .neq, .int k a, .int k' b => if k = k' then some (.bool (a != b)) else none
  | .lss, .int k a, .int k' b => if k = k' then some (.bool (decide (a < b))) else none
  | .leq, .int k a, .int k' b => if k = k' then some (.bool (decide (a ≤ b))) else none
  | .gtr, .int k a, .int k' b => if k = k' then some (.bool (decide (b < a))) else none
  | .geq, .int k a, .int k' b => if k = k' then some (.bool (decide (b ≤ a))) else none
  | op, .int k a, .int k' b => if k = k' then (bitsC op k a b).map (.int k) else none
  | .eql, .str a, .str b => some (.bool (strEq a b))
  | .neq, .str a, .str b => some (.bool (!strEq a b))
  | .lss, .str a, .str b => some (.bool (strLt a b))
  | .leq, .str a, .str b => some (.bool (strLt a b || strEq a b))
  | .gtr, .str a, .str b => some (.bool (!(strLt a b || strEq a b)))
  | .geq, .str a, .str b => some (.bool (!strLt a b))
  | .add, .str a, .str b => if a.size + b.size ≤ maxLen then some (.str (a ++ b)) else none
  | _, _, _ => none
def binB (op : BinOp) (a b : Bool) : Option Bool :=
  match op with
  | .eql => some (a == b)
  | .neq => some (a != b)
  | _ => none
section
variable {B : Nat → Prop} {nt : Nat} {w0 : Base} {w : World} {s : AS} {a : Act} {gv : GV} {P : Program} {o : Oper} {K : AS → Prop}
theorem binC_run {op : BinOp} {x y z : C} {ok : Nat → Prop} {v u : Value} (t : TypeId) (h : binC op x y = some z) (hx : RepC w ok x v) (hy : RepC w ok y u) :
    ∃ r, (binOp op t v u).run P w = .ok r w ∧ RepC w ok z r := by
  cases hx with
  | int k m hm =>
    cases hy with
    | int k' n hn =>
      by_cases hs : op = .shl ∨ op = .shr
      · rcases hs with rfl | rfl <;> simp only [binC] at h <;> split at h <;> cases h <;> rename_i hc
        · exact ⟨_, by simp [binOp, Op.shift, hc], .int _ _ (wrap_wrap _ _)⟩
        · exact ⟨_, by simp [binOp, Op.shift, hc], .int _ _ (wrap_shr _ _ _ hm)⟩
      · by_cases hk : k = k'
        · subst hk
          cases op <;> simp only [binC, bitsC, Option.map_some, Option.map_none, if_true, true_and, reduceCtorEq] at h
          case shl => exact absurd (.inl rfl) hs
          case shr => exact absurd (.inr rfl) hs
          case quo =>
            split at h <;> cases h
            rename_i hc
            exact ⟨_, by simp [binOp, Op.intDiv, hc], .int _ _ (wrap_wrap _ _)⟩
          case rem =>
            split at h <;> cases h
            rename_i hc
            exact ⟨_, by simp [binOp, Op.intDiv, hc], .int _ _ (wrap_tmod _ _ _ hm)⟩
          case add | sub | mul => cases h; exact ⟨_, by simp [binOp, Op.intArith], .int _ _ (wrap_wrap _ _)⟩
          case and | or | xor | andNot => cases h; exact ⟨_, by simp only [binOp, ne_eq, not_true_eq_false, if_false]; rfl, .int _ _ (wrap_wrap _ _)⟩
          all_goals cases h
          all_goals exact ⟨_, by simp only [binOp, Op.intCmp, ne_eq, not_true_eq_false, if_false]; rfl, .bool _⟩
        · cases op <;> simp only [binC, hk, if_false, false_and, reduceCtorEq] at h
          case shl => exact absurd (.inl rfl) hs
          case shr => exact absurd (.inr rfl) hs
    | _ => cases op <;> simp [binC] at h
  | str s1 h1 =>
    cases hy with
    | str s2 h2 =>
      cases op <;> simp only [binC, reduceCtorEq] at h
      case add =>
        split at h <;> cases h
        rename_i hle
        refine ⟨.string (s1 ++ s2), ?_, .str _ (by rw [ByteArray.size_append]; exact hle)⟩
        have : ¬ ((s1.size : Int) + (s2.size : Int) > 9223372036854775807) := by simp only [maxLen] at hle; omega
        simp [binOp, Op.stringOp, IntKind.max, IntKind.signed, IntKind.bits, this]
      all_goals cases h
      all_goals exact ⟨_, by simp only [binOp, Op.stringOp, strEq, strLt]; rfl, .bool _⟩
    | _ => cases op <;> simp [binC] at h
  | _ => cases op <;> simp [binC] at h
theorem eqGuard_run {op : BinOp} {t : TypeId} {x y : Operand} {v u : Value} (h1 : ∀ cs, v ≠ .agg cs) (h2 : v ≠ .nilIface) : (eqGuard op t x y v u).run P w = .ok () w := by
  cases op <;> first
    | rfl
    | (cases v <;> first | rfl | exact absurd rfl h2 | exact absurd rfl (h1 _))
theorem opok_bin (hd : ∀ x, o.dst = some x → x < nt) (op : BinOp) (t t' : TypeId) (x y : Operand) (ho : o.op = .binOp op t x y t') (cx cy cz : C)
    (hx : s.ev x = .one (.c cx)) (hy : s.ev y = .one (.c cy)) (hz : binC op cx cy = some cz) (hk : K (s.put o.dst (.one (.c cz)))) : OpOK B P nt w0 o s K :=
  opok_val hd _ hk fun a w gv hs => by
    have hxv := hs.ev x
    have hyv := hs.ev y
    rw [hx] at hxv
    rw [hy] at hyv
    generalize hev : a.eval x = v at hxv
    generalize heu : a.eval y = u at hyv
    cases hxv with | one hxv => cases hxv with | c hxv =>
    cases hyv with | one hyv => cases hyv with | c hyv =>
    obtain ⟨r, hr, hrep⟩ := binC_run (P := P) t hz hxv hyv
    refine ⟨r, ?_, .one (.c hrep)⟩
    have hg : (eqGuard op t x y v u).run P w = .ok () w := eqGuard_run (fun cs e => by subst e; cases hxv; cases op <;> simp [binC] at hz) (fun e => by subst e; cases hxv; cases op <;> simp [binC] at hz)
    simp [execOp, ho, hev, heu, hg, hr]
theorem run_equalIn_bool {t : TypeId} (h : P.underlying t = some .bool) (d : Nat) (b c : Bool) : (Op.equalIn (d + 1) t (.bool b) (.bool c)).run P w = .ok (b == c) w := by
  simp only [Op.equalIn, Sem.run_bind, run_underlying h, Result.andThen_ok, Sem.run_pure]
theorem run_equal_bool {t : TypeId} (h : P.underlying t = some .bool) (b c : Bool) : (Op.equal t (.bool b) (.bool c)).run P w = .ok (b == c) w := run_equalIn_bool h 9999 b c
theorem run_equalIn_nil {t e : TypeId} (h : P.underlying t = some (.slice e)) (d : Nat) (ad : Option Addr) (n cap : Nat) : (Op.equalIn (d + 1) t (.slice ad n cap) (.slice none 0 0)).run P w = .ok ad.isNone w := by
  cases ad <;> simp only [Op.equalIn, Sem.run_bind, run_underlying h, Result.andThen_ok, Sem.run_pure] <;> rfl
theorem run_equal_nil {t e : TypeId} (h : P.underlying t = some (.slice e)) (ad : Option Addr) (n cap : Nat) : (Op.equal t (.slice ad n cap) (.slice none 0 0)).run P w = .ok ad.isNone w := run_equalIn_nil h 9999 ad n cap
theorem opok_binB (hd : ∀ x, o.dst = some x → x < nt) (op : BinOp) (t t' : TypeId) (x y : Operand) (ho : o.op = .binOp op t x y t') (ti : TI) (ht : tiOf P t = some ti) (hsh : ti.sh = .bool) (b c z : Bool)
    (hx : s.ev x = .one (.c (.bool b))) (hy : s.ev y = .one (.c (.bool c))) (hz : binB op b c = some z) (hk : K (s.put o.dst (.one (.c (.bool z))))) : OpOK B P nt w0 o s K :=
  opok_val hd _ hk fun a w gv hs => by
    obtain ⟨i, d, h1, h2, h3, h4, h5, h6, h7⟩ := tiOf_some ht
    have hd' : d = .bool := by rw [h7] at hsh; cases d <;> simp [shOf] at hsh ⊢
    subst hd'
    have hxv := hs.ev x
    have hyv := hs.ev y
    rw [hx] at hxv
    rw [hy] at hyv
    have e1 := hxv.bool_inv
    have e2 := hyv.bool_inv
    have hg : (eqGuard op t x y (.bool b) (.bool c)).run P w = .ok () w := eqGuard_run (by simp) (by simp)
    refine ⟨.bool z, ?_, .one (.c (.bool z))⟩
    cases op <;> simp [binB] at hz <;> subst hz <;> simp [execOp, ho, e1, e2, hg, binOp, run_equal_bool h2] <;> (cases b <;> cases c <;> rfl)
def nilTest : A → Option (Bool → Prop)
  | .nil => some fun b => b = true
  | .c (.sl xs) => some fun b => xs ≠ [] → b = false
  | _ => none
theorem opok_nil (hd : ∀ x, o.dst = some x → x < nt) (op : BinOp) (hop : op = .eql ∨ op = .neq) (t t' : TypeId) (x y : Operand) (ho : o.op = .binOp op t x y t') (ti : TI) (ht : tiOf P t = some ti) (e : TypeId) (hsh : ti.sh = .slice e)
    (p : A) (hx : s.ev x = .one p) (hy : s.ev y = .one .nil) (T : Bool → Prop) (hT : nilTest p = some T)
    (hk : ∀ b, T b → K (s.put o.dst (.one (.c (.bool (if op = .eql then b else !b)))))) : OpOK B P nt w0 o s K := by
  intro a w ⟨gv, hs, hK⟩ Q
  obtain ⟨i, d, h1, h2, h3, h4, h5, h6, h7⟩ := tiOf_some ht
  have hd' : d = .slice e := by rw [h7] at hsh; cases d <;> simp [shOf] at hsh ⊢; exact hsh
  subst hd'
  have hxv := hs.ev x
  have hyv := hs.ev y
  rw [hx] at hxv
  rw [hy] at hyv
  generalize hev : a.eval x = v at hxv
  generalize heu : a.eval y = u at hyv
  cases hyv with | one hyv =>
  cases hyv
  cases hxv with | one hxv =>
  have key : ∃ ad n cap, v = .slice ad n cap ∧ T ad.isNone := by
    cases hxv with
    | nil => simp [nilTest] at hT; subst hT; exact ⟨none, 0, 0, rfl, rfl⟩
    | c hxv =>
      cases hxv with
      | nil => simp only [nilTest, Option.some.injEq] at hT; subst hT; exact ⟨none, 0, 0, rfl, fun h => absurd rfl h⟩
      | empty a => simp only [nilTest, Option.some.injEq] at hT; subst hT; exact ⟨some a, 0, 0, rfl, fun h => absurd rfl h⟩
      | sl xs b off cap sz vals => simp [nilTest] at hT; subst hT; exact ⟨_, _, _, rfl, fun _ => rfl⟩
      | _ => simp [nilTest] at hT
    | _ => simp [nilTest] at hT
  obtain ⟨ad, n, cap, rfl, hTb⟩ := key
  have hg : (eqGuard op t x y (.slice ad n cap) (.slice none 0 0)).run P w = .ok () w := eqGuard_run (by simp) (by simp)
  have hr : (execOp a.eval o).run P w = .ok (.value (.bool (if op = .eql then ad.isNone else !ad.isNone))) w := by
    rcases hop with rfl | rfl <;> cases ad <;> simp [execOp, ho, hev, heu, hg, binOp, run_equal_nil h2]
  unfold Oper.wp
  rw [hr]
  exact ⟨_, hk _ hTb, gv, hs.put o.dst hd _ _ (.one (.c (.bool _))), hK.putd _ _⟩
theorem opok_not (hd : ∀ x, o.dst = some x → x < nt) (t : TypeId) (x : Operand) (ho : o.op = .unOp .not t x) (b : Bool) (hx : s.ev x = .one (.c (.bool b)))
    (hk : K (s.put o.dst (.one (.c (.bool (!b)))))) : OpOK B P nt w0 o s K :=
  opok_val hd _ hk fun a w gv hs => by
    have hxv := hs.ev x
    rw [hx] at hxv
    exact ⟨.bool (!b), by simp [execOp, ho, hxv.bool_inv, Op.unary], .one (.c (.bool _))⟩
theorem opok_neg (hd : ∀ x, o.dst = some x → x < nt) (t : TypeId) (x : Operand) (ho : o.op = .unOp .neg t x) (k : IntKind) (n : Int) (hx : s.ev x = .one (.c (.int k n)))
    (hk : K (s.put o.dst (.one (.c (.int k (k.wrap (0 - n))))))) : OpOK B P nt w0 o s K :=
  opok_val hd _ hk fun a w gv hs => by
    have hxv := hs.ev x
    rw [hx] at hxv
    exact ⟨.int k (k.wrap (0 - n)), by simp [execOp, ho, hxv.int_inv.1, Op.unary, Op.intArith], .one (.c (.int _ _ (wrap_wrap _ _)))⟩
theorem opok_convInt (hd : ∀ x, o.dst = some x → x < nt) (t u : TypeId) (x : Operand) (ho : o.op = .convert t u x) (ti : TI) (ht : tiOf P t = some ti) (tu : TI) (hu : tiOf P u = some tu) (k k' : IntKind) (hsh : ti.sh = .int k')
    (hsu : tu.sh = .int k) (j : IntKind) (n : Int) (hx : s.ev x = .one (.c (.int j n))) (hk : K (s.put o.dst (.one (.c (.int k (k.wrap n)))))) : OpOK B P nt w0 o s K :=
  opok_val hd _ hk fun a w gv hs => by
    obtain ⟨i, d, h1, h2, h3, h4, h5, h6, h7⟩ := tiOf_some ht
    obtain ⟨i', d', g1, g2, g3, g4, g5, g6, g7⟩ := tiOf_some hu
    have hd1 : d = .int k' := by rw [h7] at hsh; cases d <;> simp [shOf] at hsh ⊢; exact hsh
    have hd2 : d' = .int k := by rw [g7] at hsu; cases d' <;> simp [shOf] at hsu ⊢; exact hsu
    subst hd1 hd2
    have hxv := hs.ev x
    rw [hx] at hxv
    exact ⟨.int k (k.wrap n), by simp [execOp, ho, hxv.int_inv.1, convert, run_underlying h2, run_underlying g2, Conv.intToInt], .one (.c (.int _ _ (wrap_wrap _ _)))⟩
end
end Go.AV
end
