/- How the walk goes on: one rule a step, for the simplifier. -/
import Derived.Test.YtlgnflbekdldnaaAv19
import Derived.Eval
set_option linter.unusedVariables false
set_option linter.unusedSimpArgs false
namespace Go.AV
open Go.RowKit

section
variable {B : Nat → Prop} {nt : Nat} {w0 : Base} {w : World} {s s' : AS} {a : Act} {gv : GV} {P : Program} {o : Oper} {ops : Array Oper} {r : List Oper} {K : AS → Prop} {Q : Exit → AS → Prop}

theorem aRun_cons (h : ∀ K' : AS → Prop, (∀ s', aRun P ops r s' K → K' s') → aG P ops o s K') : aRun P ops (o :: r) s K := h _ (fun _ h => h)
theorem aRun_nil (h : K s) : aRun P ops [] s K := h
theorem dWalk_cons (h : ∀ K' : AS → Prop, (∀ s', dWalk P ops r s' K → K' s') → dG P ops o s K') : dWalk P ops (o :: r) s K := h _ (fun _ h => h)
theorem dWalk_nil (h : K s) : dWalk P ops [] s K := h

theorem awp_seq_k {x y : Code} (h : ∀ M : AS → Prop, (∀ s, AWp B nt w0 P y Q s → M s) → AWp B nt w0 P x (thenA M Q) s) : AWp B nt w0 P (.seq x y) Q s := awp_seq (h _ fun _ h => h)

/-! ### Looking things up -/
theorem ev_tmp (t : Tmp) : s.ev (.tmp t) = s.nrm (s.t t) := rfl
theorem ev_const (v : Value) : s.ev (.const v) = constAV v := rfl
theorem ev_func (f : FuncId) : s.ev (.func f) = .one (.fn f []) := rfl
theorem put_t (d i : Tmp) (v : AV) : (s.put (some d) v).t i = if i = d then v else s.t i := rfl
theorem put_n (v : AV) : s.put none v = s := rfl
theorem put_H' (d : Option Tmp) (v : AV) (i u : Nat) : (s.put d v).H i u = s.H i u := by cases d <;> rfl
theorem put_N' (d : Option Tmp) (v : AV) (i : Nat) : (s.put d v).N i = s.N i := by cases d <;> rfl
theorem new_t (h : Nat) (b : Blk) (i : Nat) : (s.new h b).t i = s.t i := rfl
theorem new_H (h : Nat) (b : Blk) (i v : Nat) : (s.new h b).H i v = if i = h ∧ v = s.N h then some b else s.H i v := rfl
theorem new_N (h : Nat) (b : Blk) (i : Nat) : (s.new h b).N i = if i = h then s.N h + 1 else s.N i := rfl
theorem set_t (h v : Nat) (b : Blk) (i : Nat) : (s.set h v b).t i = s.t i := rfl
theorem set_H (h v : Nat) (b : Blk) (i u : Nat) : (s.set h v b).H i u = if i = h ∧ u = v then some b else s.H i u := rfl
theorem set_N (h v : Nat) (b : Blk) (i : Nat) : (s.set h v b).N i = s.N i := rfl
theorem frzs_nil : s.frzs [] = s := rfl
theorem frzs_t' (l : List (Nat × Nat)) (i : Nat) : (s.frzs l).t i = s.t i := by rw [frzs_t]
theorem frzs_N' (l : List (Nat × Nat)) (i : Nat) : (s.frzs l).N i = s.N i := by rw [frzs_N]
theorem frzs_H' (l : List (Nat × Nat)) (i v : Nat) : (s.frzs l).H i v = if (i, v) ∈ l then frzB (s.H i v) else s.H i v := frzs_H l s i v
theorem frzB_a (E sz : Nat) (xs : List (List C)) : frzB (some (.arr E sz xs)) = some (.frz xs) := rfl
theorem frzB_f (xs : List (List C)) : frzB (some (.frz xs)) = some (.frz xs) := rfl
theorem frzB_b (cells : List A) : frzB (some (.box cells)) = none := rfl
theorem frzB_n : frzB none = none := rfl
theorem nrm_c (x : C) : s.nrm (.one (.c x)) = .one (.c x) := rfl
theorem nrm_nil : s.nrm (.one .nil) = .one .nil := rfl
theorem nrm_ptr (h v off : Nat) : s.nrm (.one (.ptr h v off)) = .one (.ptr h v off) := rfl
theorem nrm_eptr (h v sz i j : Nat) : s.nrm (.one (.eptr h v sz i j)) = .one (.eptr h v sz i j) := rfl
theorem nrm_fn (f : FuncId) (caps : List A) : s.nrm (.one (.fn f caps)) = .one (.fn f caps) := rfl
theorem nrm_any : s.nrm (.one .any) = .one .any := rfl
theorem nrm_agg (as : List A) : s.nrm (.agg as) = .agg as := rfl
theorem nrm_tup (xs : List AV) : s.nrm (.tup xs) = .tup xs := rfl
theorem nrm_undef : s.nrm .undef = .undef := rfl
theorem nrm_own (h v : Nat) : s.nrm (.one (.own h v)) = match s.H h v with | some (.frz xs) => .one (.c (.sl xs)) | _ => .one (.own h v) := rfl
theorem kills_nil : s.kills [] = s := rfl
theorem kills_t' (l : List (Nat × Nat)) (i : Nat) : (s.kills l).t i = s.t i := by rw [kills_t]
theorem kills_N' (l : List (Nat × Nat)) (i : Nat) : (s.kills l).N i = s.N i := by rw [kills_N]
theorem kills_H' (l : List (Nat × Nat)) (i v : Nat) : (s.kills l).H i v = if (i, v) ∈ l then none else s.H i v := kills_H l s i v
theorem init_H (args : List DV) (i v : Nat) : (AS.init args).H i v = none := rfl
theorem init_N (args : List DV) (i : Nat) : (AS.init args).N i = 0 := rfl
theorem init_0 (d : DV) (ds : List DV) : (AS.init (d :: ds)).t 0 = d.av := rfl
theorem init_1 (d d1 : DV) (ds : List DV) : (AS.init (d :: d1 :: ds)).t 1 = d1.av := rfl
theorem init_2 (d d1 d2 : DV) (ds : List DV) : (AS.init (d :: d1 :: d2 :: ds)).t 2 = d2.av := rfl
theorem init_3 (d d1 d2 d3 : DV) (ds : List DV) : (AS.init (d :: d1 :: d2 :: d3 :: ds)).t 3 = d3.av := rfl
theorem init_4 (d d1 d2 d3 d4 : DV) (ds : List DV) : (AS.init (d :: d1 :: d2 :: d3 :: d4 :: ds)).t 4 = d4.av := rfl
theorem av_one (c : C) : (DV.one c).av = .one (.c c) := rfl
theorem av_agg (cs : List C) : (DV.agg cs).av = .agg (cs.map .c) := rfl

theorem const_bool (b : Bool) : constAV (.bool b) = .one (.c (.bool b)) := rfl
theorem const_int (k : IntKind) (n : Int) (h : k.wrap n = n) : constAV (.int k n) = .one (.c (.int k n)) := by simp [constAV, constA, h]
theorem const_i64 (n : Int) (h : -9223372036854775808 ≤ n ∧ n ≤ 9223372036854775807) : constAV (.int .i64 n) = .one (.c (.int .i64 n)) := const_int _ _ ((wrap_iff _ _).2 h)
theorem const_u8 (n : Int) (h : 0 ≤ n ∧ n ≤ 255) : constAV (.int .u8 n) = .one (.c (.int .u8 n)) := const_int _ _ ((wrap_iff _ _).2 h)
theorem const_u64 (n : Int) (h : 0 ≤ n ∧ n ≤ 18446744073709551615) : constAV (.int .u64 n) = .one (.c (.int .u64 n)) := const_int _ _ ((wrap_iff _ _).2 h)
theorem const_str (s : ByteArray) (h : s.size ≤ 4611686018427387904) : constAV (.string s) = .one (.c (.str s)) := by
  have : s.size ≤ maxLen := by simp only [maxLen]; omega
  simp [constAV, constA, this]
theorem const_nil : constAV (.slice none 0 0) = .one .nil := rfl
theorem const_agg (cs : Array Value) : constAV (.agg cs) = .agg (cs.toList.map constA) := rfl
theorem constA_bool (b : Bool) : constA (.bool b) = .c (.bool b) := rfl
theorem constA_i64 (n : Int) (h : -9223372036854775808 ≤ n ∧ n ≤ 9223372036854775807) : constA (.int .i64 n) = .c (.int .i64 n) := by
  have := (wrap_iff .i64 n).2 h
  simp [constA, this]
theorem constA_str (s : ByteArray) (h : s.size ≤ 4611686018427387904) : constA (.string s) = .c (.str s) := by
  have : s.size ≤ maxLen := by simp only [maxLen]; omega
  simp [constA, this]
theorem constA_nil : constA (.slice none 0 0) = .nil := rfl

/-! ### Single operations -/
variable {KO : Out → Prop} (d : Option Tmp) (ty : TypeId) (pos : String) (af : Array Edge) (g : Option (Nat × Bool))
theorem aG_none {op : Op} : aG P ops ⟨d, op, ty, pos, af, none⟩ s K = aOut P ⟨d, op, ty, pos, af, none⟩ s (fun out => K (out.apply s d)) := rfl
theorem dG_none {op : Op} : dG P ops ⟨d, op, ty, pos, af, none⟩ s K = aOut P ⟨d, op, ty, pos, af, none⟩ s (fun out => dynOk ⟨d, op, ty, pos, af, none⟩ out ∧ K (out.apply s d)) := rfl
theorem aG_some {op : Op} (j : Nat) (want : Bool) : aG P ops ⟨d, op, ty, pos, af, some (j, want)⟩ s K = match guardSlot ops j with
    | some e => match s.t e with
      | .one (.c (.bool b)) => (b = want → aOut P ⟨d, op, ty, pos, af, some (j, want)⟩ s (fun out => K (out.apply s d))) ∧ (b = !want → K (s.put d (.tup [])))
      | .tup [] => K (s.put d (.tup []))
      | _ => False
    | none => False := rfl
theorem dG_some {op : Op} (j : Nat) (want : Bool) : dG P ops ⟨d, op, ty, pos, af, some (j, want)⟩ s K = match guardSlot ops j with
    | some e => match s.t e with
      | .one (.c (.bool b)) => (b = want → aOut P ⟨d, op, ty, pos, af, some (j, want)⟩ s (fun out => dynOk ⟨d, op, ty, pos, af, some (j, want)⟩ out ∧ K (out.apply s d))) ∧ (b = !want → K (s.put d (.tup [])))
      | .tup [] => K (s.put d (.tup []))
      | _ => False
    | none => False := rfl
theorem apply_val (v : AV) : (Out.val v).apply s d = s.put d v := rfl
theorem apply_make (h : Nat) (b : Blk) (v : AV) : (Out.make h b v).apply s d = (s.new h b).put d v := rfl
theorem apply_built (l : List (Nat × Nat)) (h : Nat) (b : Blk) (v : AV) : (Out.built l h b v).apply s d = ((s.kills l).new h b).put d v := rfl
theorem apply_packed (l : List (Nat × Nat)) (h : Nat) (b : Blk) (v : AV) : (Out.packed l h b v).apply s d = ((s.frzs l).new h b).put d v := rfl
theorem apply_call (l : List (Nat × Nat)) (base : Nat) (rs : List R) (v : AV) : (Out.call l base rs v).apply s d = ((s.frzs l).take base rs).put d v := rfl
theorem apply_store (l : List (Nat × Nat)) (h v : Nat) (b : Blk) : (Out.store l h v b).apply s d = (s.frzs l).set h v b := rfl
theorem dyn_val {o : Oper} (v : AV) : dynOk o (.val v) = True := eq_true ⟨fun _ => trivial, trivial, trivial⟩
theorem dyn_make {o : Oper} (h : Nat) (b : Blk) (v : AV) : dynOk o (.make h b v) = True := eq_true ⟨fun _ => trivial, trivial, trivial⟩
theorem dyn_built {o : Oper} (h : Nat) (b : Blk) (v : AV) : dynOk o (.built [] h b v) = True := eq_true ⟨fun _ => rfl, trivial, trivial⟩
theorem dyn_append (l : List (Nat × Nat)) (h : Nat) (b : Blk) (v : AV) (args : Array Operand) (ts : Array TypeId) : dynOk ⟨d, .call ⟨.builtin .append, args, ts⟩, ty, pos, af, g⟩ (.built l h b v) = True := eq_true ⟨fun h => (by cases h), trivial, trivial⟩
theorem dyn_call {o : Oper} (base : Nat) (rs : List R) (v : AV) : dynOk o (.call [] base rs v) ↔ rs.length ≤ 900 := by
  constructor
  · intro h; exact h.2.2
  · intro h; exact ⟨fun _ => ⟨rfl, h⟩, trivial, h⟩
theorem dyn_store (h v : Nat) (b : Blk) (t : TypeId) (p x : Operand) : dynOk ⟨d, .store t p x, ty, pos, af, g⟩ (.store [] h v b) = True := eq_true ⟨fun h => (by cases h), rfl, trivial⟩

theorem aO_move (x : Operand) : aOut P ⟨d, .move x, ty, pos, af, g⟩ s KO = KO (.val (s.ev x)) := rfl
theorem aO_assign (x : Operand) : aOut P ⟨d, .assign x, ty, pos, af, g⟩ s KO = KO (.val (s.ev x)) := rfl
theorem aO_pick (c x y : Operand) : aOut P ⟨d, .pick c x y, ty, pos, af, g⟩ s KO = match s.ev c with
    | .one (.c (.bool b)) => KO (.val (if b then s.ev x else s.ev y))
    | _ => False := rfl
theorem aO_extract (x : Operand) (i : Nat) : aOut P ⟨d, .extract x i, ty, pos, af, g⟩ s KO = match s.ev x with
    | .tup xs => i < xs.length ∧ KO (.val (xs.getD i .undef))
    | _ => False := rfl
theorem aO_makeFunc (f : FuncId) (caps : Array Operand) : aOut P ⟨d, .makeFunc (.func f) #[] caps, ty, pos, af, g⟩ s KO = (#[] = (#[] : Array Operand) ∧ match ones (caps.toList.map s.ev) with
    | some cs => KO (.val (.one (.fn f cs)))
    | none => False) := rfl
theorem aO_load (t : TypeId) (p : Operand) : aOut P ⟨d, .load t p, ty, pos, af, g⟩ s KO = match tiOf P t, s.ev p with
    | some ti, .one (.c (.ptr cells)) => ti.size ≤ cells.length ∧ (ti.agg = false → ti.size = 1) ∧ KO (.val (mkAV ti.agg ((cells.take ti.size).map .c)))
    | some ti, .one (.ptr h v off) => match s.H h v with
      | some (.box cells) => off + ti.size ≤ cells.length ∧ (ti.agg = false → ti.size = 1) ∧ KO (.val (mkAV ti.agg ((cells.drop off).take ti.size)))
      | _ => False
    | some ti, .one (.eptr h v sz i j) => match s.H h v with
      | some (.arr _ sz' xs) => (sz' = sz ∧ i < xs.length ∧ j + ti.size ≤ sz) ∧ (ti.agg = false → ti.size = 1) ∧ KO (.val (mkAV ti.agg (((xs.getD i []).drop j |>.take ti.size).map .c)))
      | _ => False
    | _, _ => False := rfl
theorem aO_store (t : TypeId) (p x : Operand) : aOut P ⟨none, .store t p x, ty, pos, af, g⟩ s KO = ((none : Option Tmp) = none ∧ match tiOf P t, s.ev p, s.cellsO (s.ev x) with
    | some ti, .one (.ptr h v off), some cs => match s.H h v with
      | some (.box cells) => (cs.length = ti.size ∧ off + cs.length ≤ cells.length) ∧ KO (.store [] h v (.box (spl cells off cs)))
      | _ => False
    | some ti, .one (.eptr h v sz i j), some cs => match s.H h v, s.pks cs with
      | some (.arr E sz' xs), some ys => (sz' = sz ∧ i < xs.length ∧ (h, v) ∉ owns cs ∧ ys.length = ti.size ∧ j + ys.length ≤ sz) ∧ KO (.store (owns cs) h v (.arr E sz (xs.set i (spl (xs.getD i []) j ys))))
      | _, _ => False
    | _, _, _ => False) := rfl
theorem aO_fieldAddr (t : TypeId) (p : Operand) (f : Nat) : aOut P ⟨d, .fieldAddr t p f, ty, pos, af, g⟩ s KO = match tiOf P t, s.ev p with
    | some ti, .one pa => ti.sh = .struct ∧ match ti.flds[f]? with
      | some (fo, fs, _) => fs ≠ 0 ∧ s.ptrOk fo pa ∧ KO (.val (.one (pa.adv fo)))
      | none => False
    | _, _ => False := rfl
theorem aO_field (t : TypeId) (p : Operand) (f : Nat) : aOut P ⟨d, .field t p f, ty, pos, af, g⟩ s KO = match tiOf P t, s.ev p with
    | some ti, .agg as => ti.sh = .struct ∧ match ti.flds[f]? with
      | some (fo, fs, ft) => match tiOf P ft with
        | some fi => (fi.agg = false → fi.size = 1) ∧ fi.size = fs ∧ fo + fs ≤ as.length ∧ KO (.val (mkAV fi.agg ((as.drop fo).take fs)))
        | none => False
      | none => False
    | _, _ => False := rfl
theorem aO_indexAddr (t : TypeId) (x ix : Operand) : aOut P ⟨d, .indexAddr t x ix, ty, pos, af, g⟩ s KO = match tiOf P t, s.ev x, s.ev ix with
    | some ti, .one pa, .one (.c (.int _ i)) => match ti.sh with
      | .slice e => match tiOf P e with
        | some te => match pa with
          | .c (.sl xs) => 0 ≤ i ∧ i < xs.length ∧ (xs.getD i.toNat []).length = te.size ∧ KO (.val (.one (.c (.ptr (xs.getD i.toNat [])))))
          | .own h v => match s.H h v with
            | some (.arr _ sz xs) => sz = te.size ∧ 0 ≤ i ∧ i < xs.length ∧ KO (.val (.one (.eptr h v sz i.toNat 0)))
            | _ => False
          | _ => False
        | none => False
      | .array n e => match tiOf P e with
        | some te => 0 ≤ i ∧ i < n ∧ s.ptrOk (i.toNat * te.size) pa ∧ KO (.val (.one (pa.adv (i.toNat * te.size))))
        | none => False
      | _ => False
    | _, _, _ => False := rfl
theorem aO_index (t : TypeId) (x ix : Operand) : aOut P ⟨d, .index t x ix, ty, pos, af, g⟩ s KO = match tiOf P t, s.ev x, s.ev ix with
    | some ti, .one (.c (.str z)), .one (.c (.int _ i)) => ti.sh = .string ∧ 0 ≤ i ∧ i < z.size ∧ KO (.val (.one (.c (.int .u8 (byteAt z i.toNat)))))
    | _, _, _ => False := rfl
theorem aO_slice (t : TypeId) (x : Operand) (lw hg : Option Operand) : aOut P ⟨d, .slice t x lw hg none, ty, pos, af, g⟩ s KO = ((none : Option Operand) = none ∧ match tiOf P t, s.ev x with
    | some ti, .one (.c (.sl xs)) => match ti.sh, s.bnd lw 0, s.bnd hg xs.length with
      | .slice e, some l, some h => match tiOf P e with
        | some te => 0 ≤ l ∧ l ≤ h ∧ h ≤ xs.length ∧ (∀ y ∈ xs, y.length = te.size) ∧ KO (.val (.one (.c (.sl ((xs.take h.toNat).drop l.toNat)))))
        | none => False
      | _, _, _ => False
    | _, _ => False) := rfl
theorem aO_binOp (op : BinOp) (t t' : TypeId) (x y : Operand) : aOut P ⟨d, .binOp op t x y t', ty, pos, af, g⟩ s KO = match s.ev x, s.ev y with
    | .one (.c (.bool b)), .one (.c (.bool c)) => match tiOf P t, binB op b c with
      | some ti, some z => ti.sh = .bool ∧ KO (.val (.one (.c (.bool z))))
      | _, _ => False
    | .one (.c cx), .one (.c cy) => match binC op cx cy with
      | some z => KO (.val (.one (.c z)))
      | none => False
    | .one p, .one .nil => match tiOf P t, nilTest p with
      | some ti, some T => y = .const (.slice none 0 0) ∧ (op = .eql ∨ op = .neq) ∧ (∃ e, ti.sh = .slice e) ∧ ∀ b, T b → KO (.val (.one (.c (.bool (if op = .eql then b else !b)))))
      | _, _ => False
    | .agg xs, .agg ys => match eqAg P op t xs ys with
      | some z => KO (.val (.one (.c (.bool z))))
      | none => False
    | _, _ => False := rfl
theorem aO_not (t : TypeId) (x : Operand) : aOut P ⟨d, .unOp .not t x, ty, pos, af, g⟩ s KO = match UnOp.not, s.ev x with
    | .not, .one (.c (.bool b)) => KO (.val (.one (.c (.bool (!b)))))
    | .neg, .one (.c (.int k n)) => KO (.val (.one (.c (.int k (k.wrap (0 - n))))))
    | _, _ => False := rfl
theorem aO_neg (t : TypeId) (x : Operand) : aOut P ⟨d, .unOp .neg t x, ty, pos, af, g⟩ s KO = match UnOp.neg, s.ev x with
    | .not, .one (.c (.bool b)) => KO (.val (.one (.c (.bool (!b)))))
    | .neg, .one (.c (.int k n)) => KO (.val (.one (.c (.int k (k.wrap (0 - n))))))
    | _, _ => False := rfl
theorem aO_convert (t u : TypeId) (x : Operand) : aOut P ⟨d, .convert t u x, ty, pos, af, g⟩ s KO = match convAV P t u (s.ev x) with
    | some v => KO (.val v)
    | none => False := rfl
theorem convAV_int (t u : TypeId) (k : IntKind) (n : Int) : convAV P t u (.one (.c (.int k n))) = match tiOf P t, tiOf P u with
    | some ti, some tu => match ti.sh, tu.sh with
      | .int _, .int k => some (.one (.c (.int k (k.wrap n))))
      | _, _ => none
    | _, _ => none := by
  unfold convAV
  cases tiOf P t <;> cases tiOf P u <;> rfl
theorem aO_alloc (e : Tmp) (t : TypeId) : aOut P ⟨some e, .alloc t, ty, pos, af, g⟩ s KO = match zeroOf P t with
    | some z => KO (.make (1000 * e) (.box (z.cells.toList.map constA)) (.one (.ptr (1000 * e) (s.N (1000 * e)) 0)))
    | none => False := rfl
theorem aO_box (e : Tmp) (t : TypeId) (x : Operand) : aOut P ⟨some e, .box t x, ty, pos, af, g⟩ s KO = match s.cellsO (s.ev x) with
    | some cs => KO (.make (1000 * e) (.box cs) (.one (.ptr (1000 * e) (s.N (1000 * e)) 0)))
    | none => False := rfl
theorem aO_build (t : TypeId) (parts : Array (Nat × Operand)) : aOut P ⟨d, .build t parts, ty, pos, af, g⟩ s KO = match tiOf P t, zeroOf P t with
    | some ti, some z => match fldsOf P ti with
      | some fl => (∀ x ∈ fl, (P.info? x.2.2).isSome = true) ∧ match s.fill fl parts.toList (z.cells.toList.map constA) with
        | some out => KO (.val (.agg out))
        | none => False
      | none => False
    | _, _ => False := rfl
theorem fldsOf_s (agg : Bool) (sz by' : Nat) (fl : List (Nat × Nat × TypeId)) : fldsOf P ⟨agg, sz, by', fl, .struct⟩ = some fl := rfl
theorem fldsOf_a (agg : Bool) (sz by' n : Nat) (e : TypeId) (fl : List (Nat × Nat × TypeId)) : fldsOf P ⟨agg, sz, by', fl, .array n e⟩ = (tiOf P e).map fun te => places te.size e n 0 := rfl
theorem places_0 (sz : Nat) (E : TypeId) (off : Nat) : places sz E 0 off = [] := rfl
theorem places_s (sz : Nat) (E : TypeId) (n off : Nat) : places sz E (n + 1) off = (off, sz, E) :: places sz E n (off + sz) := rfl
theorem aO_buildSlice (e : Tmp) (t : TypeId) (n : Nat) (parts : Array (Nat × Operand)) : aOut P ⟨some e, .buildSlice t n parts, ty, pos, af, g⟩ s KO = match tiOf P t with
    | some ti => match ti.sh with
      | .slice E => match tiOf P E with
        | some te => (n * te.size = 0 ∨ ∃ z, zeroOf P E = some z) ∧ n * te.size ≤ 2 ^ 24 ∧ te.size ≠ 0 ∧ match s.fill (places te.size E n 0) parts.toList (List.replicate (n * te.size) .any) with
          | some out => match s.pks out with
            | some ys => KO (.packed (owns out) (1000 * e) (.arr E te.size (chunk te.size n ys)) (.one (.own (1000 * e) (s.N (1000 * e)))))
            | none => False
          | none => False
        | none => False
      | _ => False
    | none => False := rfl
theorem aO_len (x : Operand) (t : TypeId) : aOut P ⟨d, .call ⟨.builtin .len, #[x], #[t]⟩, ty, pos, af, g⟩ s KO ↔ match tiOf P t, s.ev x with
    | some ti, .one p => match s.len p with
      | some n => (match ti.sh with | .slice _ => isStr p = false | .string => isStr p = true | _ => False) ∧ KO (.val (.one (.c (.int .i64 n))))
      | none => False
    | _, _ => False := by
  constructor
  · rintro ⟨x', t', h1, h2, h⟩
    cases h1; cases h2; exact h
  · intro h; exact ⟨x, t, rfl, rfl, h⟩
theorem aO_min (x y : Operand) (ts : Array TypeId) : aOut P ⟨d, .call ⟨.builtin .min, #[x, y], ts⟩, ty, pos, af, g⟩ s KO ↔ match s.ev x, s.ev y with
    | .one (.c (.int k m)), .one (.c (.int k' n)) => k = k' ∧ KO (.val (.one (.c (.int k (if n < m then n else m)))))
    | _, _ => False := by
  constructor
  · rintro ⟨x', y', h1, h⟩
    cases h1; exact h
  · intro h; exact ⟨x, y, rfl, h⟩
theorem aO_max (x y : Operand) (ts : Array TypeId) : aOut P ⟨d, .call ⟨.builtin .max, #[x, y], ts⟩, ty, pos, af, g⟩ s KO ↔ match s.ev x, s.ev y with
    | .one (.c (.int k m)), .one (.c (.int k' n)) => k = k' ∧ KO (.val (.one (.c (.int k (if m < n then n else m)))))
    | _, _ => False := by
  constructor
  · rintro ⟨x', y', h1, h⟩
    cases h1; exact h
  · intro h; exact ⟨x, y, rfl, h⟩
theorem aO_append (e : Tmp) (x y : Operand) (t : TypeId) : aOut P ⟨some e, .call ⟨.builtin .append, #[x, y], #[t, t]⟩, ty, pos, af, g⟩ s KO ↔ match tiOf P t, s.ev x, s.ev y with
    | some ti, .one px, .one py => match ti.sh with
      | .slice E => match tiOf P E, zeroOf P E with
        | some te, some z => match s.dst E te.size px, s.src py with
          | some (xs, l), some ys => z.cells.size = te.size ∧ 0 < te.size ∧ 0 < te.bytes ∧ (∀ y ∈ ys, y.length = te.size) ∧ (xs.length + ys.length) * te.bytes ≤ 140737488355328 ∧
              KO (.built l (1000 * e) (.arr E te.size (xs ++ ys)) (.one (.own (1000 * e) (s.N (1000 * e)))))
          | _, _ => False
        | _, _ => False
      | _ => False
    | _, _, _ => False := by
  constructor
  · rintro ⟨x', y', t', h1, h2, h⟩
    cases h1; cases h2; exact h
  · intro h; exact ⟨x, y, t, rfl, rfl, h⟩
theorem aO_call (fo : Operand) (args : Array Operand) (ts : Array TypeId) : aOut P ⟨d, .call ⟨.value fo, args, ts⟩, ty, pos, af, g⟩ s KO = match s.ev fo, s.viewVs (args.toList.map s.ev) with
    | .one fa, some ds => match s.callee fa with
      | some (f, caps) => ∃ res, Spec P f (ds ++ caps.map .one) res ∧ ∃ kl, (kl = s.lentVs (args.toList.map s.ev) ++ s.lentF fa ∨ (kl = [] ∧ ∀ r ∈ res.flatMap RV.cells, r.flat)) ∧
          KO (.call kl (hnd d) (res.flatMap RV.cells) (packAV ((s.frzs kl).avR (hnd d) res)))
      | none => False
    | _, _ => False := rfl

theorem mk_agg (cs : List A) : mkAV true cs = .agg cs := rfl
theorem mk_one (x : A) (cs : List A) : mkAV false (x :: cs) = .one x := rfl

theorem aO_makeMap (e : Tmp) (t : TypeId) : aOut P ⟨some e, .makeMap t none, ty, pos, af, g⟩ s KO ↔ match tiOf P t with
    | some ti => match ti.sh with
      | .map _ E => match tiOf P E with
        | some te => KO (.make (1000 * e) (.map te.agg [] []) (.one (.own (1000 * e) (s.N (1000 * e)))))
        | none => False
      | _ => False
    | none => False := by
  show (∃ out, xOut P _ s out ∧ KO out) ↔ _
  simp only [xOut, hnd, true_and]
  cases tiOf P t with
  | none => simp
  | some ti =>
    cases hs : ti.sh with
    | map k E => cases he : tiOf P E <;> simp [hs, he]
    | _ => simp [hs]
theorem aO_lookup (t : TypeId) (x ix : Operand) (ok : Bool) : aOut P ⟨d, .lookup t x ix ok, ty, pos, af, g⟩ s KO ↔ match tiOf P t, s.ev x, s.ev ix with
    | some ti, .one p, .one (.c (.str k)) => match ti.sh, s.mapOf p with
      | .map kt E, some (agg, ks, vs) => match tiOf P kt, tiOf P E, zeroOf P E with
        | some tk, some te, some z => match s.pks (z.cells.toList.map constA) with
          | some zc => (tk.sh = .string ∧ agg = te.agg ∧ (te.agg = false → zc.length = 1 ∧ z.oneCell' = true) ∧ (te.agg = true → ∃ cs, z = .agg cs)) ∧ KO (.val (lookAV ok te.agg ks vs zc k))
          | none => False
        | _, _, _ => False
      | _, _ => False
    | _, _, _ => False := by
  show (∃ out, xOut P _ s out ∧ KO out) ↔ _
  simp only [xOut]
  cases tiOf P t with
  | none => simp
  | some ti =>
  cases s.ev x with
  | one p =>
    cases s.ev ix with
    | one q =>
      cases q with
      | c y =>
        cases y with
        | str k =>
          simp only
          cases ti.sh with
          | map kt E =>
            cases s.mapOf p with
            | none => simp
            | some m =>
              obtain ⟨agg, ks, vs⟩ := m
              simp only
              cases tiOf P kt with
              | none => simp
              | some tk =>
              cases tiOf P E with
              | none => simp
              | some te =>
              cases zeroOf P E with
              | none => simp
              | some z =>
              simp only
              cases s.pks (z.cells.toList.map constA) with
              | none => simp
              | some zc => exact ⟨fun ⟨out, h, hk⟩ => ⟨h.1, h.2 ▸ hk⟩, fun h => ⟨_, ⟨h.1, rfl⟩, h.2⟩⟩
          | _ => simp
        | _ => simp
      | _ => simp
    | _ => simp
  | _ => simp
theorem aO_mapUpdate (t : TypeId) (m ix x : Operand) : aOut P ⟨none, .mapUpdate t m ix x, ty, pos, af, g⟩ s KO ↔ match tiOf P t, s.ev m, s.ev ix, s.cellsO (s.ev x) with
    | some ti, .one (.own h v), .one (.c (.str k)), some cs => match ti.sh, s.H h v, s.pks cs with
      | .map kt E, some (.map agg ks vs), some ys => match tiOf P kt with
        | some tk => (tk.sh = .string ∧ s.ev x = mkAV agg cs ∧ (agg = false → cs.length = 1) ∧ (h, v) ∉ owns cs) ∧ KO (.store (owns cs) h v (.map agg (mputK ks k) (mputV ks vs k ys)))
        | none => False
      | _, _, _ => False
    | _, _, _, _ => False := by
  show (∃ out, xOut P _ s out ∧ KO out) ↔ _
  simp only [xOut, true_and]
  cases tiOf P t with
  | none => simp
  | some ti =>
  cases s.cellsO (s.ev x) with
  | none =>
    cases s.ev m with
    | one p =>
      cases p with
      | own h v =>
        cases s.ev ix with
        | one q => cases q with
          | c y => cases y <;> simp
          | _ => simp
        | _ => simp
      | _ => simp
    | _ => simp
  | some cs =>
  cases s.ev m with
  | one p =>
    cases p with
    | own h v =>
      cases s.ev ix with
      | one q =>
        cases q with
        | c y =>
          cases y with
          | str k =>
            simp only
            cases s.pks cs with
            | none => cases ti.sh <;> simp
            | some ys =>
            cases s.H h v with
            | none => cases ti.sh <;> simp
            | some b =>
            cases ti.sh with
            | map kt E =>
              cases b with
              | map agg ks vs =>
                simp only
                cases tiOf P kt with
                | none => simp
                | some tk => exact ⟨fun ⟨out, h, hk⟩ => ⟨h.1, h.2 ▸ hk⟩, fun h => ⟨_, ⟨h.1, rfl⟩, h.2⟩⟩
              | _ => simp
            | _ => simp
          | _ => simp
        | _ => simp
      | _ => simp
    | _ => simp
  | _ => simp
theorem mapOf_c (agg : Bool) (ks : List ByteArray) (vs : List (List C)) : s.mapOf (.c (.map agg ks vs)) = some (agg, ks, vs) := rfl
theorem mapOf_o (h v : Nat) : s.mapOf (.own h v) = match s.H h v with | some (.map agg ks vs) => some (agg, ks, vs) | _ => none := rfl
theorem lookAV_f (agg : Bool) (ks : List ByteArray) (vs : List (List C)) (z : List C) (k : ByteArray) : lookAV false agg ks vs z k = mkAV agg ((mget ks vs z k).map .c) := rfl
theorem lookAV_t (agg : Bool) (ks : List ByteArray) (vs : List (List C)) (z : List C) (k : ByteArray) : lookAV true agg ks vs z k = .tup [mkAV agg ((mget ks vs z k).map .c), .one (.c (.bool (mhas ks k)))] := rfl
theorem oneCell_bool (b : Bool) : (Value.bool b).oneCell' = true := rfl
theorem cellsL_bool (b : Bool) : (Value.bool b).cells.toList = [Value.bool b] := rfl
theorem Sh_map_inj (k e k' e' : TypeId) : (Sh.map k e = Sh.map k' e') = (k = k' ∧ e = e') := by simp
end
end Go.AV
