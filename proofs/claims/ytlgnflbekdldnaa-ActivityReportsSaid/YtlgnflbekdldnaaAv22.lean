/- The walk, one rule a step: the state grows by 'Out.apply' and is only looked into from the head on; the rules' set for the simplifier. -/
import Derived.Test.YtlgnflbekdldnaaAvY
set_option linter.unusedVariables false
set_option linter.unusedSimpArgs false
namespace Go.AV
open Go.RowKit

section
variable {B : Nat → Prop} {nt : Nat} {w0 : Base} {w : World} {s s' : AS} {P : Program} {o : Oper} {ops : Array Oper} {r : List Oper} {K : AS → Prop} {Q : Exit → AS → Prop}
variable {d : Option Tmp} {op : Op} {ty : TypeId} {pos : String} {af : Array Edge}

theorem run_o (h : ∀ KO : Out → Prop, Hide (∀ out, aRun P ops r (out.apply s d) K → KO out) → aOut P ⟨d, op, ty, pos, af, none⟩ s KO) : aRun P ops (⟨d, op, ty, pos, af, none⟩ :: r) s K := h _ ⟨fun _ h => h⟩
theorem run_g {j e : Nat} {want b : Bool} (hg : guardSlot ops j = some e) (hb : s.t e = .one (.c (.bool b)))
    (h : b = want → ∀ KO : Out → Prop, Hide (∀ out, aRun P ops r (out.apply s d) K → KO out) → aOut P ⟨d, op, ty, pos, af, some (j, want)⟩ s KO)
    (h' : b = !want → aRun P ops r (s.put d (.tup [])) K) : aRun P ops (⟨d, op, ty, pos, af, some (j, want)⟩ :: r) s K := by
  show aG P ops _ s _
  simp only [aG, hg, hb]
  exact ⟨fun e => h e _ ⟨fun _ h => h⟩, h'⟩
theorem run_gt {j e : Nat} {want : Bool} (hg : guardSlot ops j = some e) (hb : s.t e = .tup []) (h' : aRun P ops r (s.put d (.tup [])) K) : aRun P ops (⟨d, op, ty, pos, af, some (j, want)⟩ :: r) s K := by
  show aG P ops _ s _
  simp only [aG, hg, hb]
  exact h'
/-- What a guard's slot asks for. -/
def gcase (x : AV) (want : Bool) (A Z : Prop) : Prop :=
  match x with
  | .one (.c (.bool b)) => (b = want → A) ∧ (b = !want → Z)
  | .tup [] => Z
  | _ => False
theorem gcase_b {b want : Bool} {A Z : Prop} (h : b = want → A) (h' : b = !want → Z) : gcase (.one (.c (.bool b))) want A Z := ⟨h, h'⟩
theorem gcase_t {want : Bool} {A Z : Prop} (h : Z) : gcase (.tup []) want A Z := h
theorem run_x {j e : Nat} {want : Bool} {x : AV} (hg : guardSlot ops j = some e) (hb : s.t e = x)
    (h : gcase x want (∀ KO : Out → Prop, Hide (∀ out, aRun P ops r (out.apply s d) K → KO out) → aOut P ⟨d, op, ty, pos, af, some (j, want)⟩ s KO) (aRun P ops r (s.put d (.tup [])) K)) :
    aRun P ops (⟨d, op, ty, pos, af, some (j, want)⟩ :: r) s K := by
  subst hb
  show aG P ops _ s _
  simp only [aG, hg]
  unfold gcase at h
  split at h
  · rename_i b e
    rw [e]
    exact ⟨fun e => h.1 e _ ⟨fun _ h => h⟩, h.2⟩
  · rename_i e; rw [e]; exact h
  · exact h.elim
theorem run_nil (h : K s) : aRun P ops [] s K := h

theorem draw_o (h : ∀ KO : Out → Prop, Hide (∀ out, dynOk ⟨d, op, ty, pos, af, none⟩ out → dWalk P ops r (out.apply s d) K → KO out) → aOut P ⟨d, op, ty, pos, af, none⟩ s KO) : dWalk P ops (⟨d, op, ty, pos, af, none⟩ :: r) s K := by
  show aOut P ⟨d, op, ty, pos, af, none⟩ s (fun out => dynOk ⟨d, op, ty, pos, af, none⟩ out ∧ dWalk P ops r (out.apply s d) K)
  exact h _ ⟨fun _ h1 h => ⟨h1, h⟩⟩
theorem draw_g {j e : Nat} {want b : Bool} (hg : guardSlot ops j = some e) (hb : s.t e = .one (.c (.bool b)))
    (h : b = want → ∀ KO : Out → Prop, Hide (∀ out, dynOk ⟨d, op, ty, pos, af, some (j, want)⟩ out → dWalk P ops r (out.apply s d) K → KO out) → aOut P ⟨d, op, ty, pos, af, some (j, want)⟩ s KO)
    (h' : b = !want → dWalk P ops r (s.put d (.tup [])) K) : dWalk P ops (⟨d, op, ty, pos, af, some (j, want)⟩ :: r) s K := by
  show dG P ops _ s _
  simp only [dG, hg, hb]
  exact ⟨fun e => h e _ ⟨fun _ h1 h => ⟨h1, h⟩⟩, h'⟩
theorem draw_gt {j e : Nat} {want : Bool} (hg : guardSlot ops j = some e) (hb : s.t e = .tup []) (h' : dWalk P ops r (s.put d (.tup [])) K) : dWalk P ops (⟨d, op, ty, pos, af, some (j, want)⟩ :: r) s K := by
  show dG P ops _ s _
  simp only [dG, hg, hb]
  exact h'
theorem draw_x {j e : Nat} {want : Bool} {x : AV} (hg : guardSlot ops j = some e) (hb : s.t e = x)
    (h : gcase x want (∀ KO : Out → Prop, Hide (∀ out, dynOk ⟨d, op, ty, pos, af, some (j, want)⟩ out → dWalk P ops r (out.apply s d) K → KO out) → aOut P ⟨d, op, ty, pos, af, some (j, want)⟩ s KO) (dWalk P ops r (s.put d (.tup [])) K)) :
    dWalk P ops (⟨d, op, ty, pos, af, some (j, want)⟩ :: r) s K := by
  subst hb
  show dG P ops _ s _
  simp only [dG, hg]
  unfold gcase at h
  split at h
  · rename_i b e
    rw [e]
    exact ⟨fun e => h.1 e _ ⟨fun _ h1 h => ⟨h1, h⟩⟩, h.2⟩
  · rename_i e; rw [e]; exact h
  · exact h.elim
theorem draw_nil (h : K s) : dWalk P ops [] s K := h

theorem dyn_v {v : AV} : dynOk o (.val v) := ⟨fun _ => trivial, trivial, trivial⟩
theorem dyn_m {h : Nat} {b : Blk} {v : AV} : dynOk o (.make h b v) := ⟨fun _ => trivial, trivial, trivial⟩
theorem dyn_b {h : Nat} {b : Blk} {v : AV} : dynOk o (.built [] h b v) := ⟨fun _ => rfl, trivial, trivial⟩
theorem dyn_c {base : Nat} {rs : List R} {v : AV} (h : rs.length ≤ 900) : dynOk o (.call [] base rs v) := ⟨fun _ => ⟨rfl, h⟩, trivial, h⟩
theorem dyn_s {t : TypeId} {p x : Operand} {g : Option (Nat × Bool)} {h v : Nat} {b : Blk} : dynOk ⟨d, .store t p x, ty, pos, af, g⟩ (.store [] h v b) := ⟨fun h => (by cases h), rfl, trivial⟩
theorem dyn_p {h : Nat} {b : Blk} {v : AV} : dynOk o (.packed [] h b v) := ⟨fun _ => rfl, trivial, trivial⟩
theorem dyn_a {l : List (Nat × Nat)} {args : Array Operand} {ts : Array TypeId} {g : Option (Nat × Bool)} {h : Nat} {b : Blk} {v : AV} : dynOk ⟨d, .call ⟨.builtin .append, args, ts⟩, ty, pos, af, g⟩ (.built l h b v) := ⟨fun h => (by cases h), trivial, trivial⟩

theorem seq_x {x y : Code} (h : ∀ M : AS → Prop, Hide (∀ s, AWp B nt w0 P y Q s → M s) → AWp B nt w0 P x (thenA M Q) s) : AWp B nt w0 P (.seq x y) Q s := awp_seq (h _ ⟨fun _ h => h⟩)
theorem w64 (n : Int) (h : -9223372036854775808 ≤ n ∧ n ≤ 9223372036854775807) : IntKind.i64.wrap n = n := (wrap_iff .i64 n).2 h
theorem const_strl (l : List UInt8) (h : l.length ≤ 4611686018427387904) : constAV (.string ⟨l.toArray⟩) = .one (.c (.str ⟨l.toArray⟩)) := const_str _ h
theorem constA_strl (l : List UInt8) (h : l.length ≤ 4611686018427387904) : constA (.string ⟨l.toArray⟩) = .c (.str ⟨l.toArray⟩) := constA_str _ h
theorem constA_empty : constA (.string ByteArray.empty) = .c (.str ⟨#[]⟩) := constA_str _ (by decide)
theorem const_empty : constAV (.string ByteArray.empty) = .one (.c (.str ⟨#[]⟩)) := const_str _ (by decide)
theorem strEq_refl (z : ByteArray) : strEq z z = true := by simp [strEq]
theorem binB_eql (b c : Bool) : binB .eql b c = some (b == c) := rfl
theorem binB_neq (b c : Bool) : binB .neq b c = some (b != c) := rfl
theorem use_hide {M A : AS → Prop} {s : AS} (h : Hide (∀ s, A s → M s)) (h2 : A s) : M s := h.out s h2
theorem to_normal {M : AS → Prop} (h : M s) : thenA M Q .normal s := h
theorem to_exit {M : AS → Prop} {i : Nat} (h : Q (.exit i) s) : thenA M Q (.exit i) s := h
theorem to_ret {M : AS → Prop} (h : Q .ret s) : thenA M Q .ret s := h
theorem out_normal {i : Nat} (h : Q .normal s) : inBlockA i Q .normal s := h
theorem out_ret {i : Nat} (h : Q .ret s) : inBlockA i Q .ret s := h
theorem out_exit {i : Nat} (h : Q .normal s) : inBlockA i Q (.exit i) s := by rw [inBlockA_exit]; exact h
theorem out_exit' {i j : Nat} (e : (j == i) = false) (h : Q (.exit j) s) : inBlockA i Q (.exit j) s := by rw [inBlockA_exit' _ _ e]; exact h

theorem fin_ret {p : Prop} (h : p) : (Exit.ret = Exit.normal ∨ Exit.ret = Exit.ret) ∧ p := ⟨.inr rfl, h⟩
theorem fin_normal {p : Prop} (h : p) : (Exit.normal = Exit.normal ∨ Exit.normal = Exit.ret) ∧ p := ⟨.inl rfl, h⟩

/-! ### Looking into the state -/
theorem ap_val_t (v : AV) (e i : Tmp) : ((Out.val v).apply s (some e)).t i = if i = e then v else s.t i := rfl
theorem ap_val_tn (v : AV) (i : Tmp) : ((Out.val v).apply s none).t i = s.t i := rfl
theorem ap_val_H (v : AV) (i u : Nat) : ((Out.val v).apply s d).H i u = s.H i u := by cases d <;> rfl
theorem ap_val_N (v : AV) (i : Nat) : ((Out.val v).apply s d).N i = s.N i := by cases d <;> rfl
theorem ap_make_t (h : Nat) (b : Blk) (v : AV) (e i : Tmp) : ((Out.make h b v).apply s (some e)).t i = if i = e then v else s.t i := rfl
theorem ap_make_H (h : Nat) (b : Blk) (v : AV) (i u : Nat) : ((Out.make h b v).apply s d).H i u = if i = h ∧ u = s.N h then some b else s.H i u := by cases d <;> rfl
theorem ap_make_N (h : Nat) (b : Blk) (v : AV) (i : Nat) : ((Out.make h b v).apply s d).N i = if i = h then s.N h + 1 else s.N i := by cases d <;> rfl
theorem ap_built_t (l : List (Nat × Nat)) (h : Nat) (b : Blk) (v : AV) (e i : Tmp) : ((Out.built l h b v).apply s (some e)).t i = if i = e then v else s.t i := by
  show (if i = e then v else (s.kills l).t i) = _
  rw [kills_t]
theorem ap_built_H (l : List (Nat × Nat)) (h : Nat) (b : Blk) (v : AV) (i u : Nat) : ((Out.built l h b v).apply s d).H i u = if i = h ∧ u = s.N h then some b else if (i, u) ∈ l then none else s.H i u := by
  have : ((Out.built l h b v).apply s d).H i u = if i = h ∧ u = (s.kills l).N h then some b else (s.kills l).H i u := by cases d <;> rfl
  rw [this, kills_N, kills_H]
theorem ap_built_N (l : List (Nat × Nat)) (h : Nat) (b : Blk) (v : AV) (i : Nat) : ((Out.built l h b v).apply s d).N i = if i = h then s.N h + 1 else s.N i := by
  have : ((Out.built l h b v).apply s d).N i = if i = h then (s.kills l).N h + 1 else (s.kills l).N i := by cases d <;> rfl
  rw [this, kills_N]
theorem ap_packed_t (l : List (Nat × Nat)) (h : Nat) (b : Blk) (v : AV) (e i : Tmp) : ((Out.packed l h b v).apply s (some e)).t i = if i = e then v else s.t i := by
  show (if i = e then v else (s.frzs l).t i) = _
  rw [frzs_t]
theorem ap_packed_H (l : List (Nat × Nat)) (h : Nat) (b : Blk) (v : AV) (i u : Nat) : ((Out.packed l h b v).apply s d).H i u = if i = h ∧ u = s.N h then some b else if (i, u) ∈ l then frzB (s.H i u) else s.H i u := by
  have : ((Out.packed l h b v).apply s d).H i u = if i = h ∧ u = (s.frzs l).N h then some b else (s.frzs l).H i u := by cases d <;> rfl
  rw [this, frzs_N, frzs_H]
theorem ap_packed_N (l : List (Nat × Nat)) (h : Nat) (b : Blk) (v : AV) (i : Nat) : ((Out.packed l h b v).apply s d).N i = if i = h then s.N h + 1 else s.N i := by
  have : ((Out.packed l h b v).apply s d).N i = if i = h then (s.frzs l).N h + 1 else (s.frzs l).N i := by cases d <;> rfl
  rw [this, frzs_N]
theorem ap_store_t (l : List (Nat × Nat)) (h v : Nat) (b : Blk) (i : Tmp) : ((Out.store l h v b).apply s d).t i = s.t i := by
  show (s.frzs l).t i = _
  rw [frzs_t]
theorem ap_store_H (l : List (Nat × Nat)) (h v : Nat) (b : Blk) (i u : Nat) : ((Out.store l h v b).apply s d).H i u = if i = h ∧ u = v then some b else if (i, u) ∈ l then frzB (s.H i u) else s.H i u := by
  show (if i = h ∧ u = v then some b else (s.frzs l).H i u) = _
  rw [frzs_H]
theorem ap_store_N (l : List (Nat × Nat)) (h v : Nat) (b : Blk) (i : Nat) : ((Out.store l h v b).apply s d).N i = s.N i := by
  show (s.frzs l).N i = _
  rw [frzs_N]
theorem take_t' (rs : List R) : ∀ (base : Nat) (s : AS) (i : Nat), (s.take base rs).t i = s.t i := by
  induction rs with
  | nil => intro base s i; rfl
  | cons r rs ih =>
    intro base s i
    cases r with
    | c x => exact ih _ _ _
    | own E sz xs => rw [take_own, ih]; rfl
theorem ap_call_t (l : List (Nat × Nat)) (base : Nat) (rs : List R) (v : AV) (e i : Tmp) : ((Out.call l base rs v).apply s (some e)).t i = if i = e then v else s.t i := by
  show (if i = e then v else ((s.frzs l).take base rs).t i) = _
  rw [take_t', frzs_t]
theorem ap_call_tn (l : List (Nat × Nat)) (base : Nat) (rs : List R) (v : AV) (i : Tmp) : ((Out.call l base rs v).apply s none).t i = s.t i := by
  show ((s.frzs l).take base rs).t i = _
  rw [take_t', frzs_t]
theorem ap_call_H (l : List (Nat × Nat)) (base : Nat) (rs : List R) (v : AV) (i u : Nat) : ((Out.call l base rs v).apply s d).H i u = ((s.frzs l).take base rs).H i u := by cases d <;> rfl
theorem ap_call_N (l : List (Nat × Nat)) (base : Nat) (rs : List R) (v : AV) (i : Nat) : ((Out.call l base rs v).apply s d).N i = ((s.frzs l).take base rs).N i := by cases d <;> rfl

/-! ### Small functions on cells -/
theorem ptrOk_p (k h v off : Nat) : s.ptrOk k (.ptr h v off) = (s.H h v ≠ none) := rfl
theorem ptrOk_e (k h v sz i j : Nat) : s.ptrOk k (.eptr h v sz i j) = (s.H h v ≠ none) := rfl
theorem ptrOk_c (k : Nat) (cells : List C) : s.ptrOk k (.c (.ptr cells)) = (k ≤ cells.length) := rfl
theorem adv_p (k h v off : Nat) : A.adv k (.ptr h v off) = .ptr h v (off + k) := rfl
theorem adv_e (k h v sz i j : Nat) : A.adv k (.eptr h v sz i j) = .eptr h v sz i (j + k) := rfl
theorem adv_c (k : Nat) (cells : List C) : A.adv k (.c (.ptr cells)) = .c (.ptr (cells.drop k)) := rfl
theorem rd_c (n : Nat) (cells : List C) : s.rd n (.c (.ptr cells)) = if n ≤ cells.length then some ((cells.take n).map .c) else none := rfl
theorem rd_p (n h v off : Nat) : s.rd n (.ptr h v off) = match s.H h v with
    | some (.box cells) => if off + n ≤ cells.length then some ((cells.drop off).take n) else none
    | _ => none := rfl
theorem pk_c (x : C) : s.pk (.c x) = some x := rfl
theorem pk_nil : s.pk .nil = some (.sl []) := rfl
theorem pk_own (h v : Nat) : s.pk (.own h v) = match s.H h v with | some (.arr _ _ xs) => some (.sl xs) | some (.frz xs) => some (.sl xs) | _ => none := rfl
theorem pk_fn (f : FuncId) : s.pk (.fn f []) = some (.fn f []) := rfl
theorem pks_nil : s.pks [] = some [] := rfl
theorem pks_cons (x : A) (xs : List A) : s.pks (x :: xs) = match s.pk x, s.pks xs with | some y, some ys => some (y :: ys) | _, _ => none := rfl
theorem pks_map (cs : List C) : s.pks (cs.map .c) = some cs := by
  induction cs with
  | nil => rfl
  | cons x xs ih => rw [List.map_cons, pks_cons, ih]; rfl
theorem owns_nil : owns [] = [] := rfl
theorem owns_own (h v : Nat) (xs : List A) : owns (.own h v :: xs) = (h, v) :: owns xs := rfl
theorem owns_c (x : C) (xs : List A) : owns (.c x :: xs) = owns xs := rfl
theorem owns_n (xs : List A) : owns (.nil :: xs) = owns xs := rfl
theorem owns_f (f : FuncId) (l xs : List A) : owns (.fn f l :: xs) = owns xs := rfl
theorem owns_map (cs : List C) : owns (cs.map .c) = [] := by
  induction cs with
  | nil => rfl
  | cons x xs ih => exact ih
theorem fill_nil (fl : List (Nat × Nat × TypeId)) (cells : List A) : s.fill fl [] cells = some cells := rfl
theorem fill_cons (fl : List (Nat × Nat × TypeId)) (i : Nat) (x : Operand) (r : List (Nat × Operand)) (cells : List A) : s.fill fl ((i, x) :: r) cells = match fl[i]?, s.cellsO (s.ev x) with
    | some (off, sz, _), some cs => if cs.length = sz ∧ off + sz ≤ cells.length then s.fill fl r (spl cells off cs) else none
    | _, _ => none := rfl
theorem nilTest_n : nilTest .nil = some fun b => b = true := rfl
theorem nilTest_s (xs : List (List C)) : nilTest (.c (.sl xs)) = some fun b => xs ≠ [] → b = false := rfl
theorem len_s (xs : List (List C)) : s.len (.c (.sl xs)) = some xs.length := rfl
theorem len_z (z : ByteArray) : s.len (.c (.str z)) = some z.size := rfl
theorem len_n : s.len .nil = some 0 := rfl
theorem len_o (h v : Nat) : s.len (.own h v) = match s.H h v with | some (.arr _ _ xs) => some xs.length | _ => none := rfl
theorem isStr_s (xs : List (List C)) : isStr (.c (.sl xs)) = false := rfl
theorem isStr_z (z : ByteArray) : isStr (.c (.str z)) = true := rfl
theorem isStr_n : isStr .nil = false := rfl
theorem isStr_o (h v : Nat) : isStr (.own h v) = false := rfl
theorem bnd_n (d : Int) : s.bnd none d = some d := rfl
theorem bnd_s (x : Operand) (d : Int) : s.bnd (some x) d = match s.ev x with | .one (.c (.int _ n)) => some n | _ => none := rfl
theorem dst_n (E sz : Nat) : s.dst E sz .nil = some ([], []) := rfl
theorem dst_o (E sz h v : Nat) : s.dst E sz (.own h v) = match s.H h v with | some (.arr E' sz' xs) => if E' = E ∧ sz' = sz then some (xs, [(h, v)]) else none | _ => none := rfl
theorem src_n : s.src .nil = some [] := rfl
theorem src_s (xs : List (List C)) : s.src (.c (.sl xs)) = some xs := rfl
theorem src_o (h v : Nat) : s.src (.own h v) = match s.H h v with | some (.arr _ _ xs) => some xs | _ => none := rfl
theorem tb_n : s.tb .nil = true := rfl
theorem tb_o (h v : Nat) : s.tb (.own h v) = (s.H h v).isSome := rfl
theorem tb_p (h v o : Nat) : s.tb (.ptr h v o) = (s.H h v).isSome := rfl
theorem tb_e (h v a b c : Nat) : s.tb (.eptr h v a b c) = (s.H h v).isSome := rfl
theorem tb_f (f : FuncId) (l : List A) : s.tb (.fn f l) = true := rfl
theorem cellsO_one (x : A) : s.cellsO (.one x) = if s.tb x then some [x] else none := rfl
theorem cellsO_agg (as : List A) : s.cellsO (.agg as) = if as.all s.tb then some as else none := rfl
theorem view_n (n : Nat) : s.view n .nil = some (.sl []) := by unfold AS.view; rfl
theorem view_o (n h v : Nat) : s.view n (.own h v) = match s.H h v with | some (.arr _ _ xs) => some (.sl xs) | some (.frz xs) => some (.sl xs) | some (.map agg ks vs) => some (.map agg ks vs) | _ => none := by unfold AS.view; rfl
theorem view_p (n h v off : Nat) : s.view (n + 1) (.ptr h v off) = match s.H h v with
    | some (.box cells) => if off ≤ cells.length then (s.views n (cells.drop off)).map .ptr else none
    | _ => none := by rw [AS.view]; rfl
theorem view_f (n : Nat) (f : FuncId) (caps : List A) : s.view (n + 1) (.fn f caps) = (s.views n caps).map (.fn f) := by rw [AS.view]
theorem views_nil (n : Nat) : s.views n [] = some [] := by unfold AS.views; rfl
theorem views_cons (n : Nat) (x : A) (xs : List A) : s.views n (x :: xs) = match s.view n x, s.views n xs with | some y, some ys => some (y :: ys) | _, _ => none := by rw [AS.views]; rfl
theorem viewV_one (x : A) : s.viewV (.one x) = (s.view 3 x).map .one := rfl
theorem viewV_agg (as : List A) : s.viewV (.agg as) = (s.views 3 as).map .agg := rfl
theorem lent_n (n : Nat) : s.lent n .nil = [] := by cases n <;> (unfold AS.lent; rfl)
theorem lent_o (n h v : Nat) : s.lent n (.own h v) = [(h, v)] := by cases n <;> (unfold AS.lent; rfl)
theorem lent_p (n h v off : Nat) : s.lent (n + 1) (.ptr h v off) = match s.H h v with
    | some (.box cells) => (h, v) :: s.lents n (cells.drop off)
    | _ => [] := by rw [AS.lent]; rfl
theorem lent_f (n : Nat) (f : FuncId) (caps : List A) : s.lent (n + 1) (.fn f caps) = s.lents n caps := by rw [AS.lent]
theorem lents_nil (n : Nat) : s.lents n [] = [] := by unfold AS.lents; rfl
theorem lents_cons (n : Nat) (x : A) (xs : List A) : s.lents n (x :: xs) = s.lent n x ++ s.lents n xs := by rw [AS.lents]
theorem lentV_one (x : A) : s.lentV (.one x) = s.lent 3 x := rfl
theorem lentV_agg (as : List A) : s.lentV (.agg as) = s.lents 3 as := rfl
theorem callee_fn (f : FuncId) (caps : List A) : s.callee (.fn f caps) = (s.views 3 caps).map fun cs => (f, cs) := rfl
theorem lentF_fn (f : FuncId) (caps : List A) : s.lentF (.fn f caps) = s.lents 3 caps := rfl
theorem chunk_0 {α : Type} (sz : Nat) (l : List α) : chunk sz 0 l = [] := rfl
theorem chunk_s {α : Type} (sz n : Nat) (l : List α) : chunk sz (n + 1) l = l.take sz :: chunk sz n (l.drop sz) := rfl
theorem ones_nil : ones [] = some [] := rfl
theorem ones_cons (x : A) (r : List AV) : ones (.one x :: r) = (ones r).map (x :: ·) := rfl
theorem spl_s {α : Type} (x : α) (l : List α) (n : Nat) (cs : List α) : spl (x :: l) (n + 1) cs = x :: spl l n cs := by
  simp [spl, Nat.add_right_comm n 1]
theorem spl_c {α : Type} (x : α) (l : List α) (y : α) (cs : List α) : spl (x :: l) 0 (y :: cs) = y :: spl l 0 cs := by
  simp [spl]
theorem spl_n {α : Type} (l : List α) : spl l 0 [] = l := by simp [spl]
theorem spl_0 {α : Type} (l : List α) (cs : List α) : spl l 0 cs = cs ++ l.drop cs.length := by simp [spl]
theorem spl_full {α : Type} (l : List α) (cs : List α) (h : cs.length = l.length) : spl l 0 cs = cs := by simp [spl, h]
theorem spl_len {α : Type} (l : List α) (off : Nat) (cs : List α) (h : off + cs.length ≤ l.length) : (spl l off cs).length = l.length := spl_length l off cs h
theorem fold_val (v : GVal) : [C.int .i64 v.Kind, C.int .i64 v.Num, C.str v.Text, C.sl (v.Items.map GVal.cs), C.sl (v.Keys.map strC)] = v.cs := by
  simp only [GVal.cs, GVal.css_map]
theorem fold_mk (a b : Int) (z : ByteArray) (is : List GVal) (ks : List ByteArray) : [C.int .i64 a, C.int .i64 b, C.str z, C.sl (is.map GVal.cs), C.sl (ks.map strC)] = (GVal.mk a b z is ks).cs := by
  simp only [GVal.cs, GVal.css_map]; rfl
theorem retC_oo (h v E sz : Nat) (xs : List (List C)) : retC s (.own h v) (.own E sz xs) = (s.H h v = some (.arr E sz xs)) := rfl
theorem retC_nc (y : C) : retC s .nil (.c y) = (y = .sl []) := rfl
theorem retC_oc (h v : Nat) (y : C) : retC s (.own h v) (.c y) ↔ match s.H h v with | some (.arr _ _ xs) => y = .sl xs | some (.frz xs) => y = .sl xs | _ => False := by
  show ((∃ E sz xs, s.H h v = some (.arr E sz xs) ∧ y = .sl xs) ∨ ∃ xs, s.H h v = some (.frz xs) ∧ y = .sl xs) ↔ _
  cases s.H h v with
  | none => simp
  | some b =>
    cases b with
    | arr E sz xs =>
      constructor
      · rintro (⟨_, _, _, h1, h2⟩ | ⟨_, h1, _⟩)
        · cases h1; exact h2
        · cases h1
      · intro h; exact .inl ⟨E, sz, xs, rfl, h⟩
    | _ => simp
def R.flatB : R → Bool
  | .c (.bool _) | .c (.int _ _) | .c (.str _) => true
  | _ => false
def RV.flatBs : List RV → Bool
  | [] => true
  | .one r :: rs => r.flatB && RV.flatBs rs
  | _ :: _ => false
theorem flat_of : ∀ {res : List RV}, RV.flatBs res = true → ∀ r ∈ res.flatMap RV.cells, r.flat
  | [], _ => by simp
  | .one r :: rs, h => by
    simp only [RV.flatBs, Bool.and_eq_true] at h
    intro x hx
    rw [List.flatMap_cons, List.mem_append] at hx
    rcases hx with hx | hx
    · have : x = r := by simpa [RV.cells] using hx
      subst this
      cases x with
      | c y => cases y <;> simp [R.flatB, R.flat, C.flat] at h ⊢
      | own => simp [R.flatB] at h
    · exact flat_of h.2 x hx
  | .agg _ :: _, h => by simp [RV.flatBs] at h
theorem retC_no (E sz : Nat) (xs : List (List C)) : retC s .nil (.own E sz xs) = (xs = []) := rfl
theorem strC_length (z : ByteArray) : (strC z).length = 1 := rfl
theorem intC_length (z : Int) : (intC z).length = 1 := rfl
theorem mem_map_len {X : Type} (f : X → List C) (n : Nat) (h : ∀ x, (f x).length = n) (l : List X) : (∀ y ∈ l.map f, y.length = n) = True := by
  simp only [eq_iff_iff, iff_true]
  intro y hy
  obtain ⟨x, _, rfl⟩ := List.mem_map.1 hy
  exact h x
end

attribute [go_sem ↓] ptrOk_p ptrOk_e ptrOk_c rd_c rd_p pk_own len_o bnd_n bnd_s dst_n dst_o src_o tb_o tb_p tb_e tb_f cellsO_c cellsO_map view_c view_n view_o views_c pks_map owns_map lents_c lent_c viewV_c viewV_map lentV_c lentV_map callee_fn0 lentF_fn0
  ap_val_t ap_val_tn ap_val_H ap_val_N ap_make_t ap_make_H ap_make_N ap_built_t ap_built_H ap_built_N ap_packed_t ap_packed_H ap_packed_N ap_store_t ap_store_H ap_store_N ap_call_t ap_call_tn ap_call_H ap_call_N
  ev_tmp ev_const ev_func put_t put_n put_H' put_N' new_t new_H new_N set_t set_H set_N kills_nil kills_t' kills_N' kills_H' frzs_nil frzs_t' frzs_N' frzs_H' nrm_own init_H init_N init_0 init_1 init_2 init_3 init_4
  aO_move aO_assign aO_pick aO_extract aO_makeFunc aO_load aO_store aO_fieldAddr aO_field aO_indexAddr aO_index aO_slice aO_binOp aO_not aO_neg aO_convert convAV_int aO_alloc aO_box aO_build aO_buildSlice aO_makeMap aO_lookup aO_mapUpdate aO_len aO_min aO_max aO_append aO_call
attribute [go_sem ↓] all_c
attribute [go_sem ↓] nrm_c nrm_nil nrm_ptr nrm_eptr nrm_fn nrm_any nrm_agg nrm_tup nrm_undef
attribute [go_sem] List.length_set forall_eq List.nodup_cons List.mem_singleton Prod.mk.injEq List.length_take List.length_drop List.length_append false_and and_false false_or or_false retC_oo retC_nc retC_oc Blk.arr.injEq Option.some.injEq C.sl.injEq retC_no List.size_toArray Nat.zero_add List.replicate_zero List.replicate_succ mapOf_c mapOf_o lookAV_f lookAV_t oneCell_bool cellsL_bool mget_set mputV_set frzB_a frzB_f frzB_b frzB_n true_or or_true Sh.slice.injEq exists_eq' List.map_eq_nil_iff fold_val strC_length intC_length List.mem_map forall_exists_index and_imp forall_apply_eq_imp_iff₂ spl_full binB_eql binB_neq beq_self_eq_true bne_self_eq_false strEq_refl List.drop_succ_cons List.drop_zero List.take_succ_cons List.take_zero List.drop_nil List.take_nil constA_empty const_empty List.all_cons List.all_nil spl_s spl_c spl_n spl_len List.forall_mem_cons List.toList_toArray fldsOf_s fldsOf_a places_0 places_s adv_p adv_e adv_c pk_c pk_nil pk_fn pks_nil pks_cons owns_nil owns_own owns_c owns_n owns_f fill_nil fill_cons nilTest_n nilTest_s len_s len_z len_n isStr_s isStr_z isStr_n isStr_o src_n src_s tb_n cellsO_one cellsO_agg view_p view_f views_nil views_cons viewV_one viewV_agg lent_n lent_o lent_p lent_f lents_nil lents_cons lentV_one lentV_agg callee_fn lentF_fn chunk_0 chunk_s ones_nil ones_cons
  Option.isSome_some Option.isSome_none List.length_cons List.length_nil List.length_map List.not_mem_nil List.nodup_nil false_imp_iff implies_true av_one av_agg const_bool const_i64 const_u8 const_u64 const_str const_strl const_nil const_agg constA_bool constA_i64 constA_str constA_strl constA_nil mk_agg mk_one
  b_add b_sub b_mul b_quo b_rem b_eql b_neq b_lss b_leq b_gtr b_geq b_seql b_sneq b_slss b_sleq b_sgtr b_sgeq
  tb_c cellsO_c cellsO_map viewV_c viewV_map viewVs_nil viewVs_cons' lentV_c lentV_map lentVs_nil lentVs_cons callee_fn0 lentF_fn0 callee_c lentF_c
  take_nil take_c take_own take_map cellsR_nil cellsR_c cellsR_own cellsR_map avR_nil avR_one_c avR_one_own avR_agg pack_one pack_nil pack_two rv_one rv_agg hnd_some hnd_none
  retAVs_nil retAVs_tmp retAVs_cell retForm_nil retForm_one retForm_agg gives_map shows_map retC_c retCs_nil retCs_cons gives_cc shows_cc gives_nn shows_nn gives_oo gives_oc shows_oo shows_oc gives_nil shows_nil
attribute [go_sem_proc] reduceIte reduceCtorEq Nat.reduceEqDiff Nat.reduceAdd Nat.reduceMul Nat.reduceSub Nat.reduceLT Nat.reduceLeDiff Nat.reduceDiv Nat.reduceMod Nat.reduceSucc Int.reduceLE Int.reduceLT Int.reduceNeg Int.reduceAdd Int.reduceSub Int.reduceMul Int.reduceEq Int.reduceNe Int.reduceToNat
attribute [go_sem_proc ↓] reduceIte
attribute [go_sem] and_self List.getElem?_cons_zero List.getElem?_cons_succ Int.ofNat_lt Int.toNat_natCast
attribute [go_sem] List.getD_cons_zero List.getD_cons_succ Bool.true_and Bool.and_true Bool.false_and Bool.and_false Bool.true_or Bool.or_true Bool.false_or Bool.or_false Bool.not_not true_and and_true eq_self forall_const Option.map_some Option.map_none List.map_cons List.map_nil List.append_nil List.nil_append List.cons_append List.flatMap_cons List.flatMap_nil ne_eq not_false_eq_true not_true_eq_false decide_true decide_false Bool.not_true Bool.not_false Bool.false_eq_true Bool.true_eq_false if_true if_false
attribute [irreducible] gcase
end Go.AV
