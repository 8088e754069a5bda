/- Texts Av3. -/
import Derived.Test.YtlgnflbekdldnaaGreatDoorAvK2
set_option linter.unusedVariables false
set_option linter.unusedSimpArgs false
set_option linter.unusedSectionVars false
noncomputable section
namespace Go.AV
open Go.RowKit
def constA : Value → A
  | .bool b => .c (.bool b)
  | .int k n => if k.wrap n = n then .c (.int k n) else .any
  | .string s => if s.size ≤ maxLen then .c (.str s) else .any
  | .slice none 0 0 => .nil
  | _ => .any
def constAV : Value → AV
  | .agg cs => .agg (cs.toList.map constA)
  | .tuple _ => .undef
  | v => .one (constA v)
def AS.nrm (s : AS) : AV → AV
  | .one (.own h v) => match s.H h v with
    | some (.frz c) => .one (.c c)
    | _ => .one (.own h v)
  | x => x
def AS.ev (s : AS) : Operand → AV
  | .tmp t => s.nrm (s.t t)
  | .const v => constAV v
  | .global _ => .undef
  | .func f => .one (.fn f [])
theorem constA_ok (B : Nat → Prop) (w : World) (s : AS) (gv : GV) (v : Value) : RepA B w s gv (constA v) v := by
  unfold constA
  split
  · exact .c (.bool _)
  · split
    · rename_i h; exact .c (.int _ _ h)
    · exact .any
  · split
    · rename_i h; exact .c (.str _ h)
    · exact .any
  · exact .nil
  · exact .any
theorem constAs_ok (B : Nat → Prop) (w : World) (s : AS) (gv : GV) (cs : List Value) : RepAs B w s gv (cs.map constA) cs := by
  refine ⟨by simp, fun m hm => ?_⟩
  have hm' : m < cs.length := by simpa using hm
  rw [getD_lt _ _ _ hm, getD_lt _ _ _ hm', List.getElem_map]
  exact constA_ok _ _ _ _ _
theorem constAV_ok (B : Nat → Prop) (w : World) (s : AS) (gv : GV) (v : Value) : RepAV B w s gv (constAV v) v := by
  unfold constAV
  split
  · exact .agg (constAs_ok _ _ _ _ _)
  · exact .undef
  · exact .one (constA_ok _ _ _ _ _)
section
variable {B : Nat → Prop} {nt : Nat} {w0 : Base} {w : World} {s : AS} {a : Act} {gv : GV}
theorem SimG.nrm (h : SimG B nt w0 s a w gv) {x : AV} {v : Value} (hr : RepAV B w s gv x v) : RepAV B w s gv (s.nrm x) v := by
  unfold AS.nrm
  split
  · rename_i i u
    split
    · rename_i xs hH
      cases hr with
      | one hr =>
        cases hr with
        | own hv hx =>
          have := hx (by rw [hH]; simp)
          subst this
          exact .one (.c (h.live i u _ hH))
    · exact hr
  · exact hr
theorem SimG.ev (h : SimG B nt w0 s a w gv) (x : Operand) : RepAV B w s gv (s.ev x) (a.eval x) := by
  cases x with
  | tmp t => exact h.nrm (h.tmps t)
  | const v => exact constAV_ok _ _ _ _ _
  | global g => exact .undef
  | func f => exact .one (.fn (by simp) (fun m hm => by simp at hm))
def AS.told (s : AS) : A → Prop
  | .c _ => True
  | .nil => True
  | .own h v => s.H h v ≠ none
  | .ptr h v _ => s.H h v ≠ none
  | .eptr h v _ _ _ => s.H h v ≠ none
  | .fn _ _ => True
  | .any => False
theorem SimG.oneCell (h : SimG B nt w0 s a w gv) {x : A} {v : Value} (hr : RepA B w s gv x v) (ht : s.told x) : v.oneCell' = true := by
  cases hr with
  | @c x v h => exact h.oneCell
  | nil => rfl
  | @own i u x hv hx =>
    have := hx ht
    subst this
    cases e : s.H i u with
    | none => exact absurd e ht
    | some blk =>
      have hb := h.live i u blk e
      cases blk with
      | frz xs => exact RepC.oneCell hb
      | map agg ks vs => obtain ⟨b, _, _, _, hg, _⟩ := hb; rw [hg]; rfl
      | iter agg ks vs done => obtain ⟨r, _, _, _, _, hg, _⟩ := hb; rw [hg]; rfl
      | box cells => obtain ⟨b, vals, T, hg, _⟩ := hb; rw [hg]; rfl
      | arr E sz xs =>
        obtain ⟨vals, _, hr, _⟩ := hb
        rcases hr.2 with ⟨hg, _⟩ | ⟨g, cap, cur, hg, _⟩ <;> (rw [hg]; rfl)
  | @ptr i u off x hv hx => obtain ⟨b, _, rfl⟩ := hx ht; rfl
  | @eptr i u sz j k x hv hx => obtain ⟨b, _, rfl⟩ := hx ht; rfl
  | fn => rfl
  | any => exact ht.elim
theorem cells_one {v : Value} (h : v.oneCell' = true) : v.cells = #[v] := by
  cases v <;> first | rfl | simp [Value.oneCell'] at h
def AS.cellsOf (s : AS) : AV → List A → Prop
  | .one x, cs => cs = [x] ∧ s.told x
  | .agg asx, cs => cs = asx ∧ ∀ x ∈ asx, s.told x
  | _, _ => False
theorem SimG.cells (h : SimG B nt w0 s a w gv) {av : AV} {v : Value} {cs : List A} (hr : RepAV B w s gv av v) (hc : s.cellsOf av cs) :
    RepAs B w s gv cs v.cells.toList ∧ (∀ u ∈ v.cells.toList, u.oneCell' = true) ∧ ∀ x ∈ cs, s.told x := by
  cases hr with
  | @one x v hx =>
    obtain ⟨rfl, ht⟩ := hc
    have h1 := h.oneCell hx ht
    rw [cells_one h1]
    refine ⟨⟨rfl, fun m hm => ?_⟩, ?_, by simpa using ht⟩
    · have : m = 0 := by simpa using hm
      subst this
      exact hx
    · intro u hu
      have : u = v := by simpa using hu
      rw [this]; exact h1
  | @agg asx vs hx =>
    obtain ⟨rfl, ht⟩ := hc
    refine ⟨hx, ?_, ht⟩
    intro u hu
    obtain ⟨m, hm, rfl⟩ := List.getElem_of_mem hu
    have hx' : vs.toList.length = cs.length := hx.1
    have hm' : m < vs.toList.length := hm
    have := hx.2 m (by omega)
    rw [getD_lt vs.toList _ _ hm'] at this
    exact h.oneCell this (ht _ (getD_mem _ _ _ (by omega)))
  | tup => exact hc.elim
  | undef => exact hc.elim
def mkAV (agg : Bool) (cs : List A) : AV := if agg then .agg cs else .one (cs.getD 0 .any)
inductive Sh where
  | bool
  | int (k : IntKind)
  | string
  | slice (e : TypeId)
  | array (n : Nat) (e : TypeId)
  | struct
  | map (k e : TypeId)
  | other
  deriving DecidableEq
structure TI where
  agg : Bool
  size : Nat
  bytes : Nat
  flds : List (Nat × Nat × TypeId)
  sh : Sh
def shOf : TypeDesc → Sh
  | .bool => .bool
  | .int k => .int k
  | .string => .string
  | .slice e => .slice e
  | .array n e => .array n e
  | .struct _ => .struct
  | .map k e => .map k e
  | _ => .other
def tiOf (P : Program) (t : TypeId) : Option TI :=
  match P.info? t, P.underlying t with
  | some i, some d => some ⟨d.isRow, i.size, i.bytes, (match d with | .struct fs => fs.toList.map fun f => (f.offset, P.cellsOf f.type, f.type) | _ => []), shOf d⟩
  | _, _ => none
theorem tiOf_some {P : Program} {t : TypeId} {ti : TI} (h : tiOf P t = some ti) : ∃ i d, P.info? t = some i ∧ P.underlying t = some d ∧ ti.agg = d.isRow ∧ ti.size = i.size ∧ ti.bytes = i.bytes ∧
    ti.flds = (match d with | .struct fs => fs.toList.map fun f => (f.offset, P.cellsOf f.type, f.type) | _ => []) ∧ ti.sh = shOf d := by
  unfold tiOf at h
  split at h
  · rename_i i d h1 h2
    cases h
    exact ⟨i, d, h1, h2, rfl, rfl, rfl, rfl, rfl⟩
  · cases h
theorem sizeOf_run {P : Program} {t : TypeId} {i : TypeInfo} (h : P.info? t = some i) (w : World) : (sizeOf t).run P w = .ok i.size w := by
  simp [sizeOf, typeInfo, h]
theorem isAgg_run {P : Program} {t : TypeId} {d : TypeDesc} (h : P.underlying t = some d) (w : World) : (isAgg t).run P w = .ok d.isRow w := by
  unfold isAgg
  rw [Sem.run_bind, run_underlying h w]
  cases d <;> rfl
def OpOK (B : Nat → Prop) (P : Program) (nt : Nat) (w0 : Base) (o : Oper) (s : AS) (K : AS → Prop) : Prop :=
  ∀ a w, Sim B nt w0 s a w → ∀ Q, o.wp P a w (fun a' w' => ∃ s', K s' ∧ Sim B nt w0 s' a' w') Q
variable {P : Program} {o : Oper} {K : AS → Prop}
theorem opok_val (hd : ∀ x, o.dst = some x → x < nt) (av : AV) (hk : K (s.put o.dst av))
    (h : ∀ a w gv, SimG B nt w0 s a w gv → ∃ v, (execOp a.eval o).run P w = .ok (.value v) w ∧ RepAV B w s gv av v) : OpOK B P nt w0 o s K := by
  intro a w ⟨gv, hs, hK⟩ Q
  obtain ⟨v, hr, hv⟩ := h a w gv hs
  unfold Oper.wp
  rw [hr]
  exact ⟨_, hk, gv, hs.put o.dst hd av v hv, hK.putd _ _⟩
theorem opok_move (hd : ∀ x, o.dst = some x → x < nt) (x : Operand) (ho : o.op = .move x ∨ o.op = .assign x) (hk : K (s.put o.dst (s.ev x))) : OpOK B P nt w0 o s K :=
  opok_val hd _ hk fun a w gv hs => ⟨a.eval x, by rcases ho with ho | ho <;> simp [execOp, ho], hs.ev x⟩
theorem RepAV.bool_inv {b : Bool} {v : Value} (h : RepAV B w s gv (.one (.c (.bool b))) v) : v = .bool b := by
  cases h with | one h => cases h with | c h => cases h; rfl
theorem RepAV.int_inv {k : IntKind} {n : Int} {v : Value} (h : RepAV B w s gv (.one (.c (.int k n))) v) : v = .int k n ∧ k.wrap n = n := by
  cases h with | one h => cases h with | c h => cases h; exact ⟨rfl, ‹_›⟩
theorem RepAV.str_inv {x : ByteArray} {v : Value} (h : RepAV B w s gv (.one (.c (.str x))) v) : v = .string x ∧ x.size ≤ maxLen := by
  cases h with | one h => cases h with | c h => cases h; exact ⟨rfl, ‹_›⟩
theorem opok_pick (hd : ∀ x, o.dst = some x → x < nt) (c x y : Operand) (ho : o.op = .pick c x y) (b : Bool) (hc : s.ev c = .one (.c (.bool b)))
    (hk : K (s.put o.dst (if b then s.ev x else s.ev y))) : OpOK B P nt w0 o s K :=
  opok_val hd _ hk fun a w gv hs => by
    have hcv := hs.ev c
    rw [hc] at hcv
    refine ⟨if b then a.eval x else a.eval y, by simp [execOp, ho, hcv.bool_inv, asBool], ?_⟩
    cases b
    · exact hs.ev y
    · exact hs.ev x
theorem opok_extract (hd : ∀ x, o.dst = some x → x < nt) (x : Operand) (i : Nat) (ho : o.op = .extract x i) (xs : List AV) (hx : s.ev x = .tup xs) (hi : i < xs.length)
    (hk : K (s.put o.dst (xs.getD i .undef))) : OpOK B P nt w0 o s K :=
  opok_val hd _ hk fun a w gv hs => by
    have hv := hs.ev x
    rw [hx] at hv
    generalize hev : a.eval x = v at hv
    cases hv with
    | @tup _ vs hn h =>
      refine ⟨vs.getD i Go.undef, ?_, h i hi⟩
      have hi' : i < vs.size := by omega
      simp [execOp, ho, Instr.extract, hev, hi']
theorem opok_makeFunc (hd : ∀ x, o.dst = some x → x < nt) (f : FuncId) (caps : Array Operand) (ho : o.op = .makeFunc (.func f) #[] caps) (cs : List A)
    (hc : caps.toList.map s.ev = cs.map .one) (hk : K (s.put o.dst (.one (.fn f cs)))) : OpOK B P nt w0 o s K :=
  opok_val hd _ hk fun a w gv hs => by
    refine ⟨.func (.func f) #[] (caps.map a.eval), by simp [execOp, ho, Instr.makeFunc], .one (.fn ?_ ?_)⟩
    · have := congrArg List.length hc
      simpa using this
    · intro m hm
      have hl : cs.length = caps.size := by have := congrArg List.length hc; simpa using this.symm
      have hm' : m < caps.size := by omega
      have he := hs.ev caps[m]
      have hq : s.ev caps[m] = .one (cs.getD m .any) := by
        have := congrArg (fun l => l[m]?) hc
        simp only [List.getElem?_map] at this
        rw [List.getElem?_eq_getElem (by simpa using hm'), List.getElem?_eq_getElem hm] at this
        simp only [Option.map_some, Option.some.injEq] at this
        rw [getD_lt _ _ _ hm]
        simpa using this
      rw [hq] at he
      have : (caps.map a.eval).getD m Go.undef = a.eval caps[m] := by simp [Array.getD, hm']
      rw [this]
      cases he with | one h => exact h
end
end Go.AV
end
