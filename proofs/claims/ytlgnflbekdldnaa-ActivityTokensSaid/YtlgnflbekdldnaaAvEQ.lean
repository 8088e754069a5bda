/- '==' of structs whose fields are numbers, strings and bools. -/
import Derived.Test.YtlgnflbekdldnaaAvX
import Derived.Laws.StructEq
set_option linter.unusedVariables false
set_option linter.unusedSimpArgs false
namespace Go.AV
open Go.RowKit

/-- Two cells compared, at a shape of type. -/
def cEq : Sh → A → A → Option Bool
  | .int _, .c (.int k m), .c (.int k' n) => if k = k' then some (m == n) else none
  | .bool, .c (.bool a), .c (.bool b) => some (a == b)
  | .string, .c (.str a), .c (.str b) => some (strEq a b)
  | _, _, _ => none
/-- The fields compared, one after the other. -/
def eqFs (P : Program) : List Field → List A → List A → Option Bool
  | [], _, _ => some true
  | f :: fs, xs, ys => match f.name == "_", tiOf P f.type, xs[f.offset]?, ys[f.offset]? with
    | false, some ti, some a, some b => match cEq ti.sh a b, eqFs P fs xs ys with
      | some p, some q => some (p && q)
      | _, _ => none
    | _, _, _, _ => none
/-- What '==', '!=' of two structs give. -/
def eqAg (P : Program) (op : BinOp) (t : TypeId) (xs ys : List A) : Option Bool :=
  match P.underlying t, P.stoodInHeld t, P.eqGuardType P.depth t with
  | some (.struct fs), false, false => match op, eqFs P fs.toList xs ys with
    | .eql, some b => some b
    | .neq, some b => some (!b)
    | _, _ => none
  | _, _, _ => none

section
variable {B : Nat → Prop} {nt : Nat} {w0 : Base} {w : World} {s : AS} {a : Act} {gv : GV} {P : Program} {o : Oper} {K : AS → Prop}

theorem RepAs.at? {as : List A} {vs : Array Value} (h : RepAs B w s gv as vs.toList) {n : Nat} {x : A} (hx : as[n]? = some x) : ∃ v, vs[n]? = some v ∧ RepA B w s gv x v := by
  obtain ⟨hn, hh⟩ := h
  have hlt : n < as.length := by
    rcases Nat.lt_or_ge n as.length with h | h
    · exact h
    · rw [List.getElem?_eq_none h] at hx; cases hx
  have hlv : n < vs.size := by rw [Array.length_toList] at hn; omega
  refine ⟨vs[n], by rw [Array.getElem?_eq_getElem hlv], ?_⟩
  have := hh n hlt
  rw [getD_lt _ _ _ hlt, getD_lt _ _ _ (by simpa using hlv)] at this
  rw [List.getElem?_eq_getElem hlt, Option.some.injEq] at hx
  rw [hx] at this
  simpa using this

theorem run_part_at {t : TypeId} (h : ∀ d, P.underlying t = some d → d.isRow = false) {d : TypeDesc} (hu : P.underlying t = some d) (vs : Array Value) (n : Nat) (v : Value) (hv : vs[n]? = some v) :
    (part t vs n).run P w = .ok v w := by
  have hisagg := isAgg_run hu w
  rw [h d hu] at hisagg
  simp [part, hisagg, hv]

theorem eqFs_run (d : Nat) {xs ys : List A} {vs us : Array Value} (hx : RepAs B w s gv xs vs.toList) (hy : RepAs B w s gv ys us.toList) : ∀ (fs : List Field) (b : Bool), eqFs P fs xs ys = some b →
    (Op.eqFields (d + 1) vs us fs).run P w = .ok b w
  | [], b, h => by simp only [eqFs, Option.some.injEq] at h; subst h; rfl
  | f :: fs, b, h => by
    unfold eqFs at h
    split at h
    · rename_i ti x y e0 e1 e2 e3
      split at h
      · rename_i p q e4 e5
        cases h
        have ih := eqFs_run d hx hy fs q e5
        obtain ⟨v, hv, rv⟩ := hx.at? e2
        obtain ⟨u, hu, ru⟩ := hy.at? e3
        obtain ⟨i, de, h1, h2, h3, h4, h5, h6, h7⟩ := tiOf_some e1
        have hne : f.name ≠ "_" := by simpa using e0
        have key : de.isRow = false ∧ (Op.equalIn (d + 1) f.type v u).run P w = .ok p w := by
          rw [h7] at e4
          unfold cEq at e4
          split at e4
          · rename_i ki k m k' n hsh
            split at e4
            · rename_i hk
              cases e4
              subst hk
              cases rv with | c rv => cases ru with | c ru =>
              cases rv with | int k m hm =>
              cases ru with | int k n hn =>
              cases de <;> simp [shOf] at hsh
              subst hsh
              exact ⟨rfl, run_equalIn_int w d _ _ _ m n h2⟩
            · cases e4
          · rename_i a b hsh
            cases e4
            cases rv with | c rv => cases ru with | c ru =>
            cases rv
            cases ru
            cases de <;> simp [shOf] at hsh
            exact ⟨rfl, run_equalIn_bool' w d _ _ _ h2⟩
          · rename_i a b hsh
            cases e4
            cases rv with | c rv => cases ru with | c ru =>
            cases rv
            cases ru
            cases de <;> simp [shOf] at hsh
            refine ⟨rfl, ?_⟩
            rw [run_equalIn_string w d _ _ _ h2]
            rfl
          · cases e4
        have p1 := run_part_at (w := w) (fun d' hd' => by rw [h2] at hd'; cases hd'; exact key.1) h2 vs f.offset v hv
        have p2 := run_part_at (w := w) (fun d' hd' => by rw [h2] at hd'; cases hd'; exact key.1) h2 us f.offset u hu
        simp only [Op.eqFields, if_pos hne, Sem.run_bind, p1, p2, key.2, Result.andThen_ok]
        cases p
        · simp
        · simpa using ih
      · cases h
    · cases h

theorem opok_eqAg (hd : ∀ x, o.dst = some x → x < nt) (op : BinOp) (t t' : TypeId) (x y : Operand) (ho : o.op = .binOp op t x y t') (xs ys : List A) (z : Bool)
    (hx : s.ev x = .agg xs) (hy : s.ev y = .agg ys) (hz : eqAg P op t xs ys = some z) (hk : K (s.put o.dst (.one (.c (.bool z))))) : OpOK B P nt w0 o s K :=
  opok_val hd _ hk fun a w gv hs => by
    have hxv := hs.ev x
    have hyv := hs.ev y
    rw [hx] at hxv
    rw [hy] at hyv
    generalize hev : a.eval x = v at hxv
    generalize heu : a.eval y = u at hyv
    cases hxv with | @agg _ vs hxv =>
    cases hyv with | @agg _ us hyv =>
    refine ⟨.bool z, ?_, .one (.c (.bool z))⟩
    unfold eqAg at hz
    split at hz
    · rename_i fs h1 h2 h3
      have hf : P.fieldsOf t = fs := by simp [Program.fieldsOf, h1]
      have hu : P.underlying t = some (.struct (P.fieldsOf t)) := by rw [hf]; exact h1
      have hg : (eqGuard op t x y (.agg vs) (.agg us)).run P w = .ok () w := run_eqGuard_agg w op t x y vs us h3
      split at hz
      · rename_i b e
        have hbz := Option.some.inj hz
        subst hbz
        have hr := eqFs_run 9998 hxv hyv fs.toList b e
        have he := run_equalIn_struct w 9999 t vs us hu h2
        rw [hf] at he
        simp [execOp, ho, hev, heu, hg, run_eql_struct, he, hr]
      · rename_i b e
        have hbz := Option.some.inj hz
        subst hbz
        have hr := eqFs_run 9998 hxv hyv fs.toList b e
        have he := run_equalIn_struct w 9999 t vs us hu h2
        rw [hf] at he
        simp [execOp, ho, hev, heu, hg, run_neq_struct, he, hr]
      · cases hz
    · cases hz
end
end Go.AV
