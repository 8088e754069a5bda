/- Texts Av13. -/
import Derived.Laws.StructEq
import Derived.Test.YtlgnflbekdldnaaGreatDoorAvK13
set_option linter.unusedVariables false
set_option linter.unusedSimpArgs false
set_option linter.unusedSectionVars false
noncomputable section
namespace Go.AV
open Go.RowKit
inductive Out where
  | val (v : AV)
  | make (h : Nat) (b : Blk) (v : AV)
  | built (l : List (Nat × Nat)) (h : Nat) (b : Blk) (v : AV)
  | packed (l : List (Nat × Nat)) (h : Nat) (b : Blk) (v : AV)
  | call (l : List (Nat × Nat)) (base : Nat) (rs : List R) (v : AV)
  | store (l : List (Nat × Nat)) (h v : Nat) (b : Blk)
def Out.apply (s : AS) (d : Option Tmp) : Out → AS
  | .val v => s.put d v
  | .make h b v => (s.new h b).put d v
  | .built l h b v => ((s.kills l).new h b).put d v
  | .packed l h b v => ((s.frzs l).new h b).put d v
  | .call l base rs v => ((s.frzs l).take base rs).put d v
  | .store l h v b => (s.frzs l).set h v b
def hnd : Option Tmp → Nat
  | some d => 1000 * d
  | none => 0
def xOut (P : Program) (o : Oper) (s : AS) (out : Out) : Prop :=
  match o.op with
  | .makeMap t r => r = none ∧ match tiOf P t with
    | some ti => match ti.sh with
      | .map _ E => match tiOf P E with
        | some te => out = .make (hnd o.dst) (.map te.agg [] []) (.one (.own (hnd o.dst) (s.N (hnd o.dst))))
        | none => False
      | _ => False
    | none => False
  | .lookup t x ix ok => match tiOf P t, s.ev x, s.ev ix with
    | some ti, .one p, .one (.c (.str k)) => match ti.sh, s.mapOf p with
      | .map kt E, some (agg, ks, vs) => match tiOf P kt, tiOf P E, zeroOf P E with
        | some tk, some te, some z => match s.pks (z.cells.toList.map constA) with
          | some zc => (tk.sh = .string ∧ agg = te.agg ∧ (te.agg = false → zc.length = 1 ∧ z.oneCell' = true) ∧ (te.agg = true → ∃ cs, z = .agg cs)) ∧ out = .val (lookAV ok te.agg ks vs zc k)
          | none => False
        | _, _, _ => False
      | _, _ => False
    | _, _, _ => False
  | .mapUpdate t m ix x => o.dst = none ∧ match tiOf P t, s.ev m, s.ev ix, s.cellsO (s.ev x) with
    | some ti, .one (.own h v), .one (.c (.str k)), some cs => match ti.sh, s.H h v, s.pks cs with
      | .map kt E, some (.map agg ks vs), some ys => match tiOf P kt with
        | some tk => (tk.sh = .string ∧ s.ev x = mkAV agg cs ∧ (agg = false → cs.length = 1) ∧ (h, v) ∉ owns cs) ∧ out = .store (owns cs) h v (.map agg (mputK ks k) (mputV ks vs k ys))
        | none => False
      | _, _, _ => False
    | _, _, _, _ => False
  | .nilCheck x => match s.ev x with
    | .one pa => s.ptrOk 0 pa ∧ out = .val (.one pa)
    | _ => False
  | .makeSlice t l c => match tiOf P t, s.ev l, s.ev c with
    | some ti, .one (.c (.int _ n)), .one (.c (.int _ m)) => match ti.sh with
      | .slice e => match tiOf P e, zeroOf P e with
        | some te, some z => match s.pks (z.cells.toList.map constA) with
          | some zc => (0 ≤ n ∧ m = n ∧ n.toNat * te.bytes ≤ 281474976710656 ∧ n.toNat ≤ maxLen ∧ z.cells.size = te.size ∧ 0 < te.size ∧ (∀ u ∈ z.cells.toList, u.oneCell' = true) ∧ owns (z.cells.toList.map constA) = []) ∧
              out = .make (hnd o.dst) (.arr e te.size (List.replicate n.toNat zc)) (.one (.own (hnd o.dst) (s.N (hnd o.dst))))
          | none => False
        | _, _ => False
      | _ => False
    | _, _, _ => False
  | _ => False
section
variable {B : Nat → Prop} {nt : Nat} {w0 : Base} {w : World} {s : AS} {a : Act} {gv : GV} {P : Program} {o : Oper} {K : AS → Prop} [InvC P B w0]
theorem xOut_ok (hd : ∀ x, o.dst = some x → x < nt) {out : Out} (h : xOut P o s out) (hk : K (out.apply s o.dst)) : OpOK B P nt w0 o s K := by
  unfold xOut at h
  split at h
  · rename_i t r ho
    obtain ⟨rfl, h⟩ := h
    split at h
    · split at h
      · split at h
        · subst h
          exact opok_makeMap hd _ t ho _ hk
        · exact h.elim
      · exact h.elim
    · exact h.elim
  · rename_i t x ix ok ho
    split at h
    · rename_i ti p k ht hp hk'
      split at h
      · rename_i kt E agg ks vs hsh hm
        split at h
        · rename_i tk te z htk hte hz
          split at h
          · rename_i zc hzc
            obtain ⟨⟨h1, h2, h3, h4⟩, rfl⟩ := h
            subst h2
            exact opok_lookup hd t x ix ok ho ti ht kt E hsh tk htk h1 te hte z hz zc hzc (fun ha => (h3 ha).1) h4 p hp ks vs hm k hk' (fun ha => (h3 ha).2) hk
          · exact h.elim
        · exact h.elim
      · exact h.elim
    · exact h.elim
  · rename_i t m ix x ho
    obtain ⟨hdn, h⟩ := h
    split at h
    · rename_i ti hh v k cs ht hp hk' hx
      split at h
      · rename_i kt E agg ks vs ys hsh hH hpk
        split at h
        · rename_i tk htk
          obtain ⟨⟨h1, h2, h3, h4⟩, rfl⟩ := h
          exact opok_mapUpdate hdn t m ix x ho ti ht kt E hsh tk htk h1 hh v hp agg ks vs hH k hk' cs hx h2 h3 ys hpk h4 hk
        · exact h.elim
      · exact h.elim
    · exact h.elim
  · rename_i x ho
    split at h
    · rename_i pa hx
      obtain ⟨h1, rfl⟩ := h
      exact opok_nilCheck hd x ho pa hx h1 hk
    · exact h.elim
  · rename_i t l c ho
    split at h
    · rename_i ti kl n kc m ht hl hc
      split at h
      · rename_i e hsh
        split at h
        · rename_i te z hte hz
          split at h
          · rename_i zc hzc
            obtain ⟨⟨h1, rfl, h3, h4, h5, h6, h7, h8⟩, rfl⟩ := h
            obtain ⟨q, rfl⟩ := Int.eq_ofNat_of_zero_le h1
            exact opok_makeSlice hd _ t l c ho ti ht e hsh te hte z hz q kl kc hl hc h3 h4 h5 h6 zc hzc h7 h8 hk
          · exact h.elim
        · exact h.elim
      · exact h.elim
    · exact h.elim
  · exact h.elim
end
end Go.AV
namespace Go.AV
open Go.RowKit
def cEq : Sh → A → A → Option Bool
  | .int _, .c (.int k m), .c (.int k' n) => if k = k' then some (m == n) else none
  | .bool, .c (.bool a), .c (.bool b) => some (a == b)
  | .string, .c (.str a), .c (.str b) => some (strEq a b)
  | _, _, _ => none
def eqFs (P : Program) : List Field → List A → List A → Option Bool
  | [], _, _ => some true
  | f :: fs, xs, ys => match f.name == "_", tiOf P f.type, xs[f.offset]?, ys[f.offset]? with
    | false, some ti, some a, some b => match cEq ti.sh a b, eqFs P fs xs ys with
      | some p, some q => some (p && q)
      | _, _ => none
    | _, _, _, _ => none
def eqAg (P : Program) (op : BinOp) (t : TypeId) (xs ys : List A) : Option Bool :=
  match P.underlying t, P.stoodInHeld t, P.eqGuardType P.depth t with
  | some (.struct fs), false, false => match op, eqFs P fs.toList xs ys with
    | .eql, some b => some b
    | .neq, some b => some (!b)
    | _, _ => none
  | _, _, _ => none
section
variable {B : Nat → Prop} {nt : Nat} {w0 : Base} {w : World} {s : AS} {a : Act} {gv : GV} {P : Program} {o : Oper} {K : AS → Prop} [InvC P B w0]
theorem RepAs.at? {asx : List A} {vs : Array Value} (h : RepAs B w s gv asx vs.toList) {n : Nat} {x : A} (hx : asx[n]? = some x) : ∃ v, vs[n]? = some v ∧ RepA B w s gv x v := by
  obtain ⟨hn, hh⟩ := h
  have hlt : n < asx.length := by
    rcases Nat.lt_or_ge n asx.length with h | h
    · exact h
    · rw [List.getElem?_eq_none h] at hx; cases hx
  have hlv : n < vs.size := by rw [Array.length_toList] at hn; omega
  refine ⟨vs[n], by rw [Array.getElem?_eq_getElem hlv], ?_⟩
  have := hh n hlt
  rw [getD_lt _ _ _ hlt, getD_lt _ _ _ (by simpa using hlv)] at this
  rw [List.getElem?_eq_getElem hlt, Option.some.injEq] at hx
  rw [hx] at this
  simpa using this
theorem run_part_at {t : TypeId} (h : ∀ d, P.underlying t = some d → d.isRow = false) {d : TypeDesc} (hu : P.underlying t = some d) (vs : Array Value) (n : Nat) (v : Value) (hv : vs[n]? = some v) :
    (part t vs n).run P w = .ok v w := by
  have hisagg := isAgg_run hu w
  rw [h d hu] at hisagg
  simp [part, hisagg, hv]
theorem eqFs_run (d : Nat) {xs ys : List A} {vs us : Array Value} (hx : RepAs B w s gv xs vs.toList) (hy : RepAs B w s gv ys us.toList) : ∀ (fs : List Field) (b : Bool), eqFs P fs xs ys = some b →
    (Op.eqFields (d + 1) vs us fs).run P w = .ok b w
  | [], b, h => by simp only [eqFs, Option.some.injEq] at h; subst h; rfl
  | f :: fs, b, h => by
    unfold eqFs at h
    split at h
    · rename_i ti x y e0 e1 e2 e3
      split at h
      · rename_i p q e4 e5
        cases h
        have ih := eqFs_run d hx hy fs q e5
        obtain ⟨v, hv, rv⟩ := hx.at? e2
        obtain ⟨u, hu, ru⟩ := hy.at? e3
        obtain ⟨i, de, h1, h2, h3, h4, h5, h6, h7⟩ := tiOf_some e1
        have hne : f.name ≠ "_" := by simpa using e0
        have key : de.isRow = false ∧ (Op.equalIn (d + 1) f.type v u).run P w = .ok p w := by
          rw [h7] at e4
          unfold cEq at e4
          split at e4
          · rename_i ki k m k' n hsh
            split at e4
            · rename_i hk
              cases e4
              subst hk
              cases rv with | c rv => cases ru with | c ru =>
              cases rv with | int k m hm =>
              cases ru with | int k n hn =>
              cases de <;> simp [shOf] at hsh
              subst hsh
              exact ⟨rfl, run_equalIn_int w d _ _ _ m n h2⟩
            · cases e4
          · rename_i a b hsh
            cases e4
            cases rv with | c rv => cases ru with | c ru =>
            cases rv
            cases ru
            cases de <;> simp [shOf] at hsh
            exact ⟨rfl, run_equalIn_bool' w d _ _ _ h2⟩
          · rename_i a b hsh
            cases e4
            cases rv with | c rv => cases ru with | c ru =>
            cases rv
            cases ru
            cases de <;> simp [shOf] at hsh
            refine ⟨rfl, ?_⟩
            rw [run_equalIn_string w d _ _ _ h2]
            rfl
          · cases e4
        have p1 := run_part_at (w := w) (fun d' hd' => by rw [h2] at hd'; cases hd'; exact key.1) h2 vs f.offset v hv
        have p2 := run_part_at (w := w) (fun d' hd' => by rw [h2] at hd'; cases hd'; exact key.1) h2 us f.offset u hu
        simp only [Op.eqFields, if_pos hne, Sem.run_bind, p1, p2, key.2, Result.andThen_ok]
        cases p
        · simp
        · simpa using ih
      · cases h
    · cases h
theorem opok_eqAg (hd : ∀ x, o.dst = some x → x < nt) (op : BinOp) (t t' : TypeId) (x y : Operand) (ho : o.op = .binOp op t x y t') (xs ys : List A) (z : Bool)
    (hx : s.ev x = .agg xs) (hy : s.ev y = .agg ys) (hz : eqAg P op t xs ys = some z) (hk : K (s.put o.dst (.one (.c (.bool z))))) : OpOK B P nt w0 o s K :=
  opok_val hd _ hk fun a w gv hs => by
    have hxv := hs.ev x
    have hyv := hs.ev y
    rw [hx] at hxv
    rw [hy] at hyv
    generalize hev : a.eval x = v at hxv
    generalize heu : a.eval y = u at hyv
    cases hxv with | @agg _ vs hxv =>
    cases hyv with | @agg _ us hyv =>
    refine ⟨.bool z, ?_, .one (.c (.bool z))⟩
    unfold eqAg at hz
    split at hz
    · rename_i fs h1 h2 h3
      have hf : P.fieldsOf t = fs := by simp [Program.fieldsOf, h1]
      have hu : P.underlying t = some (.struct (P.fieldsOf t)) := by rw [hf]; exact h1
      have hg : (eqGuard op t x y (.agg vs) (.agg us)).run P w = .ok () w := run_eqGuard_agg w op t x y vs us h3
      split at hz
      · rename_i b e
        have hbz := Option.some.inj hz
        subst hbz
        have hr := eqFs_run 9998 hxv hyv fs.toList b e
        have he := run_equalIn_struct w 9999 t vs us hu h2
        rw [hf] at he
        simp [execOp, ho, hev, heu, hg, run_eql_struct, he, hr]
      · rename_i b e
        have hbz := Option.some.inj hz
        subst hbz
        have hr := eqFs_run 9998 hxv hyv fs.toList b e
        have he := run_equalIn_struct w 9999 t vs us hu h2
        rw [hf] at he
        simp [execOp, ho, hev, heu, hg, run_neq_struct, he, hr]
      · cases hz
    · cases hz
end
end Go.AV
namespace Go.AV
open Go.RowKit
def ones : List AV → Option (List A)
  | [] => some []
  | .one x :: r => (ones r).map (x :: ·)
  | _ :: _ => none
theorem ones_map {l : List AV} {cs : List A} (h : ones l = some cs) : l = cs.map .one := by
  induction l generalizing cs with
  | nil => simp [ones] at h; subst h; rfl
  | cons x r ih =>
    cases x with
    | one x =>
      simp only [ones, Option.map_eq_some_iff] at h
      obtain ⟨cs', h1, rfl⟩ := h
      rw [ih h1]; rfl
    | _ => simp [ones] at h
def isStr : A → Bool
  | .c (.str _) => true
  | _ => false
def AS.bnd (s : AS) (x : Option Operand) (d : Int) : Option Int :=
  match x with
  | none => some d
  | some x => match s.ev x with
    | .one (.c (.int _ n)) => some n
    | _ => none
theorem bnd_ok {s : AS} {x : Option Operand} {d n : Int} (h : s.bnd x d = some n) : s.bound x d n := by
  cases x with
  | none => simpa [AS.bnd, AS.bound] using h.symm
  | some x =>
    simp only [AS.bnd] at h
    split at h
    · rename_i k m he; cases h; exact ⟨k, he⟩
    · cases h
def fldsOf (P : Program) (ti : TI) : Option (List (Nat × Nat × TypeId)) :=
  match ti.sh with
  | .struct => some ti.flds
  | .array n e => (tiOf P e).map fun te => places te.size e n 0
  | _ => none
def aOut (P : Program) (o : Oper) (s : AS) (K : Out → Prop) : Prop :=
  match o.op with
  | .move x => K (.val (s.ev x))
  | .assign x => K (.val (s.ev x))
  | .pick c x y => match s.ev c with
    | .one (.c (.bool b)) => K (.val (if b then s.ev x else s.ev y))
    | _ => False
  | .extract x i => match s.ev x with
    | .tup xs => i < xs.length ∧ K (.val (xs.getD i .undef))
    | _ => False
  | .makeFunc (.func f) first caps => first = #[] ∧ match ones (caps.toList.map s.ev) with
    | some cs => K (.val (.one (.fn f cs)))
    | none => False
  | .load t p => match tiOf P t, s.ev p with
    | some ti, .one (.c (.ptr cells)) => ti.size ≤ cells.length ∧ (ti.agg = false → ti.size = 1) ∧ K (.val (mkAV ti.agg ((cells.take ti.size).map .c)))
    | some ti, .one (.ptr h v off) => match s.H h v with
      | some (.box cells) => off + ti.size ≤ cells.length ∧ (ti.agg = false → ti.size = 1) ∧ K (.val (mkAV ti.agg ((cells.drop off).take ti.size)))
      | _ => False
    | some ti, .one (.eptr h v sz i j) => match s.H h v with
      | some (.arr _ sz' xs) => (sz' = sz ∧ i < xs.length ∧ j + ti.size ≤ sz) ∧ (ti.agg = false → ti.size = 1) ∧ K (.val (mkAV ti.agg (((xs.getD i []).drop j |>.take ti.size).map .c)))
      | _ => False
    | _, _ => False
  | .store t p x => o.dst = none ∧ match tiOf P t, s.ev p, s.cellsO (s.ev x) with
    | some ti, .one (.ptr h v off), some cs => match s.H h v with
      | some (.box cells) => (cs.length = ti.size ∧ off + cs.length ≤ cells.length) ∧ K (.store [] h v (.box (spl cells off cs)))
      | _ => False
    | some ti, .one (.eptr h v sz i j), some cs => match s.H h v, s.pks cs with
      | some (.arr E sz' xs), some ys => (sz' = sz ∧ i < xs.length ∧ (h, v) ∉ owns cs ∧ ys.length = ti.size ∧ j + ys.length ≤ sz) ∧ K (.store (owns cs) h v (.arr E sz (xs.set i (spl (xs.getD i []) j ys))))
      | _, _ => False
    | _, _, _ => False
  | .fieldAddr t p f => match tiOf P t, s.ev p with
    | some ti, .one pa => ti.sh = .struct ∧ match ti.flds[f]? with
      | some (fo, fs, _) => fs ≠ 0 ∧ s.ptrOk fo pa ∧ K (.val (.one (pa.adv fo)))
      | none => False
    | _, _ => False
  | .field t p f => match tiOf P t, s.ev p with
    | some ti, .agg asx => ti.sh = .struct ∧ match ti.flds[f]? with
      | some (fo, fs, ft) => match tiOf P ft with
        | some fi => (fi.agg = false → fi.size = 1) ∧ fi.size = fs ∧ fo + fs ≤ asx.length ∧ K (.val (mkAV fi.agg ((asx.drop fo).take fs)))
        | none => False
      | none => False
    | _, _ => False
  | .indexAddr t x ix => match tiOf P t, s.ev x, s.ev ix with
    | some ti, .one pa, .one (.c (.int _ i)) => match ti.sh with
      | .slice e => match tiOf P e with
        | some te => match pa with
          | .c (.sl xs) => 0 ≤ i ∧ i < xs.length ∧ (xs.getD i.toNat []).length = te.size ∧ K (.val (.one (.c (.ptr (xs.getD i.toNat [])))))
          | .own h v => match s.H h v with
            | some (.arr _ sz xs) => sz = te.size ∧ 0 ≤ i ∧ i < xs.length ∧ K (.val (.one (.eptr h v sz i.toNat 0)))
            | _ => False
          | _ => False
        | none => False
      | .array n e => match tiOf P e with
        | some te => 0 ≤ i ∧ i < n ∧ s.ptrOk (i.toNat * te.size) pa ∧ K (.val (.one (pa.adv (i.toNat * te.size))))
        | none => False
      | _ => False
    | _, _, _ => False
  | .index t x ix => match tiOf P t, s.ev x, s.ev ix with
    | some ti, .one (.c (.str z)), .one (.c (.int _ i)) => ti.sh = .string ∧ 0 ≤ i ∧ i < z.size ∧ K (.val (.one (.c (.int .u8 (byteAt z i.toNat)))))
    | _, _, _ => False
  | .slice t x lw hg mx => mx = none ∧ match tiOf P t, s.ev x with
    | some ti, .one (.c (.sl xs)) => match ti.sh, s.bnd lw 0, s.bnd hg xs.length with
      | .slice e, some l, some h => match tiOf P e with
        | some te => 0 ≤ l ∧ l ≤ h ∧ h ≤ xs.length ∧ (∀ y ∈ xs, y.length = te.size) ∧ K (.val (.one (.c (.sl ((xs.take h.toNat).drop l.toNat)))))
        | none => False
      | _, _, _ => False
    | _, _ => False
  | .binOp op t x y _ => match s.ev x, s.ev y with
    | .one (.c (.bool b)), .one (.c (.bool c)) => match tiOf P t, binB op b c with
      | some ti, some z => ti.sh = .bool ∧ K (.val (.one (.c (.bool z))))
      | _, _ => False
    | .one (.c cx), .one (.c cy) => match binC op cx cy with
      | some z => K (.val (.one (.c z)))
      | none => False
    | .one p, .one .nil => match tiOf P t, nilTest p with
      | some ti, some T => y = .const (.slice none 0 0) ∧ (op = .eql ∨ op = .neq) ∧ (∃ e, ti.sh = .slice e) ∧ ∀ b, T b → K (.val (.one (.c (.bool (if op = .eql then b else !b)))))
      | _, _ => False
    | .agg xs, .agg ys => match eqAg P op t xs ys with
      | some z => K (.val (.one (.c (.bool z))))
      | none => False
    | _, _ => False
  | .unOp op t x => match op, s.ev x with
    | .not, .one (.c (.bool b)) => K (.val (.one (.c (.bool (!b)))))
    | .neg, .one (.c (.int k n)) => K (.val (.one (.c (.int k (k.wrap (0 - n))))))
    | _, _ => False
  | .convert t u x => match convAV P t u (s.ev x) with
    | some v => K (.val v)
    | none => False
  | .alloc t => match zeroOf P t with
    | some z => K (.make (hnd o.dst) (.box (z.cells.toList.map constA)) (.one (.ptr (hnd o.dst) (s.N (hnd o.dst)) 0)))
    | none => False
  | .box _ x => match s.cellsO (s.ev x) with
    | some cs => K (.make (hnd o.dst) (.box cs) (.one (.ptr (hnd o.dst) (s.N (hnd o.dst)) 0)))
    | none => False
  | .build t parts => match tiOf P t, zeroOf P t with
    | some ti, some z => match fldsOf P ti with
      | some fl => (∀ x ∈ fl, (P.info? x.2.2).isSome = true) ∧ match s.fill fl parts.toList (z.cells.toList.map constA) with
        | some out => K (.val (.agg out))
        | none => False
      | none => False
    | _, _ => False
  | .buildSlice t n parts => match tiOf P t with
    | some ti => match ti.sh with
      | .slice E => match tiOf P E with
        | some te => (n * te.size = 0 ∨ ∃ z, zeroOf P E = some z) ∧ n * te.size ≤ 2 ^ 24 ∧ te.size ≠ 0 ∧ match s.fill (places te.size E n 0) parts.toList (List.replicate (n * te.size) .any) with
          | some out => match s.pks out with
            | some ys => K (.packed (owns out) (hnd o.dst) (.arr E te.size (chunk te.size n ys)) (.one (.own (hnd o.dst) (s.N (hnd o.dst)))))
            | none => False
          | none => False
        | none => False
      | _ => False
    | none => False
  | .call ⟨.builtin .len, args, ts⟩ => ∃ x t, args = #[x] ∧ ts = #[t] ∧ match tiOf P t, s.ev x with
    | some ti, .one p => match s.len p with
      | some n => (match ti.sh with | .slice _ => isStr p = false | .string => isStr p = true | _ => False) ∧ K (.val (.one (.c (.int .i64 n))))
      | none => False
    | _, _ => False
  | .call ⟨.builtin .min, args, _⟩ => ∃ x y, args = #[x, y] ∧ match s.ev x, s.ev y with
    | .one (.c (.int k m)), .one (.c (.int k' n)) => k = k' ∧ K (.val (.one (.c (.int k (if n < m then n else m)))))
    | _, _ => False
  | .call ⟨.builtin .max, args, _⟩ => ∃ x y, args = #[x, y] ∧ match s.ev x, s.ev y with
    | .one (.c (.int k m)), .one (.c (.int k' n)) => k = k' ∧ K (.val (.one (.c (.int k (if m < n then n else m)))))
    | _, _ => False
  | .call ⟨.builtin .append, args, ts⟩ => ∃ x y t, args = #[x, y] ∧ ts = #[t, t] ∧ match tiOf P t, s.ev x, s.ev y with
    | some ti, .one px, .one py => match ti.sh with
      | .slice E => match tiOf P E, zeroOf P E with
        | some te, some z => match s.dst E te.size px, s.src py with
          | some (xs, l), some ys => z.cells.size = te.size ∧ 0 < te.size ∧ 0 < te.bytes ∧ (∀ y ∈ ys, y.length = te.size) ∧ (xs.length + ys.length) * te.bytes ≤ 140737488355328 ∧
              K (.built l (hnd o.dst) (.arr E te.size (xs ++ ys)) (.one (.own (hnd o.dst) (s.N (hnd o.dst)))))
          | _, _ => False
        | _, _ => False
      | _ => False
    | _, _, _ => False
  | .call ⟨.value fo, args, _⟩ => match s.ev fo, s.viewVs (args.toList.map s.ev) with
    | .one fa, some ds => match s.callee fa with
      | some (f, caps) => ∃ res, Spec P f (ds ++ caps.map .one) res ∧ ∃ kl, (kl = s.lentVs (args.toList.map s.ev) ++ s.lentF fa ∨ (kl = [] ∧ ∀ r ∈ res.flatMap RV.cells, r.flat)) ∧
          K (.call kl (hnd o.dst) (res.flatMap RV.cells) (packAV ((s.frzs kl).avR (hnd o.dst) res)))
      | none => False
    | _, _ => False
  | _ => ∃ out, xOut P o s out ∧ K out
def aOp (P : Program) (o : Oper) (s : AS) (K : AS → Prop) : Prop := aOut P o s fun out => K (out.apply s o.dst)
section
variable {B : Nat → Prop} {nt : Nat} {w0 : Base} {w : World} {s : AS} {a : Act} {gv : GV} {P : Program} {o : Oper} {K : AS → Prop} [InvC P B w0]
theorem aOp_ok (hd : ∀ x, o.dst = some x → x < nt) (h : aOp P o s K) : OpOK B P nt w0 o s K := by
  unfold aOp aOut at h
  split at h
  · rename_i x ho; exact opok_move hd x (.inl ho) h
  · rename_i x ho; exact opok_move hd x (.inr ho) h
  · rename_i c x y ho
    split at h
    · rename_i b hb; exact opok_pick hd c x y ho b hb h
    · exact h.elim
  · rename_i x i ho
    split at h
    · rename_i xs hx; exact opok_extract hd x i ho xs hx h.1 h.2
    · exact h.elim
  · rename_i f first caps ho
    obtain ⟨rfl, h⟩ := h
    split at h
    · rename_i cs hc; exact opok_makeFunc hd f caps ho cs (ones_map hc) h
    · exact h.elim
  · -- load
    rename_i t p ho
    split at h
    · rename_i ti cells ht hp
      obtain ⟨h1, h2, h3⟩ := h
      exact opok_load hd t p ho ti ht h2 _ hp _ (by simp [AS.rd, h1]) h3
    · rename_i ti i v off ht hp
      split at h
      · rename_i cells hH
        obtain ⟨h1, h2, h3⟩ := h
        exact opok_load hd t p ho ti ht h2 _ hp _ (by simp [AS.rd, hH, h1]) h3
      · exact h.elim
    · rename_i ti i v sz k j ht hp
      split at h
      · rename_i E sz' xs hH
        obtain ⟨h1, h2, h3⟩ := h
        exact opok_load hd t p ho ti ht h2 _ hp _ (by simp only [AS.rd, hH]; rw [if_pos h1]) h3
      · exact h.elim
    · exact h.elim
  · -- store
    rename_i t p x ho
    obtain ⟨hn, h⟩ := h
    split at h
    · rename_i ti i v off cs ht hp hx
      split at h
      · rename_i cells hH
        obtain ⟨⟨h1, h2⟩, h3⟩ := h
        exact opok_store_box hn t p x ho ti ht i v off hp cells hH cs hx h1 h2 h3
      · exact h.elim
    · rename_i ti i v sz k j cs ht hp hx
      split at h
      · rename_i E sz' xs ys hH hpk
        obtain ⟨⟨rfl, h1, h2, h3, h4⟩, h5⟩ := h
        exact opok_store_arr hn t p x ho ti ht i v sz' k j hp E xs hH h1 cs hx ys hpk h2 h3 h4 h5
      · exact h.elim
    · exact h.elim
  · -- fieldAddr
    rename_i t p f ho
    split at h
    · rename_i ti pa ht hp
      obtain ⟨hsh, h⟩ := h
      split at h
      · rename_i fo fs ft hf
        exact opok_fieldAddr hd t p f ho ti ht hsh fo fs ft hf h.1 pa hp h.2.1 h.2.2
      · exact h.elim
    · exact h.elim
  · -- field
    rename_i t p f ho
    split at h
    · rename_i ti asx ht hp
      obtain ⟨hsh, h⟩ := h
      split at h
      · rename_i fo fs ft hf
        split at h
        · rename_i fi hfi
          exact opok_field hd t p f ho ti ht hsh fo fs ft hf fi hfi h.1 h.2.1 asx hp h.2.2.1 h.2.2.2
        · exact h.elim
      · exact h.elim
    · exact h.elim
  · -- indexAddr
    rename_i t x ix ho
    split at h
    · rename_i ti pa k i ht hx hi
      split at h
      · rename_i e hsh
        split at h
        · rename_i te he
          split at h
          · rename_i xs
            exact opok_indexAddr hd t x ix ho ti ht e hsh te he xs hx k i hi h.1 h.2.1 h.2.2.1 h.2.2.2
          · rename_i j v
            split at h
            · rename_i E sz xs hH
              exact opok_indexAddr_own hd t x ix ho ti ht e hsh te he j v hx E sz xs hH h.1 k i hi h.2.1 h.2.2.1 h.2.2.2
            · exact h.elim
          · exact h.elim
        · exact h.elim
      · rename_i n e hsh
        split at h
        · rename_i te he
          exact opok_indexAddr_arr hd t x ix ho ti ht n e hsh te he pa hx k i hi h.1 h.2.1 h.2.2.1 h.2.2.2
        · exact h.elim
      · exact h.elim
    · exact h.elim
  · -- index
    rename_i t x ix ho
    split at h
    · rename_i ti z k i ht hx hi
      exact opok_indexStr hd t x ix ho ti ht h.1 z hx k i hi h.2.1 h.2.2.1 h.2.2.2
    · exact h.elim
  · -- slice
    rename_i t x lw hg mx ho
    obtain ⟨rfl, h⟩ := h
    split at h
    · rename_i ti xs ht hx
      split at h
      · rename_i e l u hsh hl hu
        split at h
        · rename_i te he
          exact opok_slice hd t x lw hg ho ti ht e hsh te he xs hx l u (bnd_ok hl) (bnd_ok hu) h.1 h.2.1 h.2.2.1 h.2.2.2.1 h.2.2.2.2
        · exact h.elim
      · exact h.elim
    · exact h.elim
  · -- binOp
    rename_i op t x y t' ho
    split at h
    · rename_i b c hx hy
      split at h
      · rename_i ti z ht hz
        exact opok_binB hd op t t' x y ho ti ht h.1 b c z hx hy hz h.2
      · exact h.elim
    · rename_i cx cy hne hx hy
      split at h
      · rename_i z hz
        exact opok_bin hd op t t' x y ho cx cy z hx hy hz h
      · exact h.elim
    · rename_i p hx hy
      split at h
      · rename_i ti T ht hT
        obtain ⟨_, hop, ⟨e, hsh⟩, hk⟩ := h
        exact opok_nil hd op hop t t' x y ho ti ht e hsh p hx hy T hT hk
      · exact h.elim
    · rename_i xs ys hx hy
      split at h
      · rename_i z hz
        exact opok_eqAg hd op t t' x y ho xs ys z hx hy hz h
      · exact h.elim
    · exact h.elim
  · -- unOp
    rename_i op t x ho
    split at h
    · rename_i b hx; exact opok_not hd t x ho b hx h
    · rename_i k n hx; exact opok_neg hd t x ho k n hx h
    · exact h.elim
  · -- convert
    rename_i t u x ho
    split at h
    · rename_i v hv; exact opok_conv hd t u x ho v hv h
    · exact h.elim
  · -- alloc
    rename_i t ho
    split at h
    · rename_i z hz; exact opok_alloc hd t ho z hz _ h
    · exact h.elim
  · rename_i t x ho
    split at h
    · rename_i cs hc; exact opok_box hd t x ho cs hc _ h
    · exact h.elim
  · -- build
    rename_i t parts ho
    split at h
    · rename_i ti z ht hz
      split at h
      · rename_i fl hfl
        obtain ⟨hp, h⟩ := h
        split at h
        · rename_i out hf
          unfold fldsOf at hfl
          split at hfl
          · rename_i hsh
            cases hfl
            exact opok_build hd t parts ho ti ht hsh z hz hp out hf h
          · rename_i n e hsh
            simp only [Option.map_eq_some_iff] at hfl
            obtain ⟨te, he, rfl⟩ := hfl
            exact opok_buildArr hd t parts ho ti ht n e hsh te he z hz out hf h
          · cases hfl
        · exact h.elim
      · exact h.elim
    · exact h.elim
  · -- buildSlice
    rename_i t n parts ho
    split at h
    · rename_i ti ht
      split at h
      · rename_i E hsh
        split at h
        · rename_i te he
          obtain ⟨h1, h2, h3, h⟩ := h
          split at h
          · rename_i out hf
            split at h
            · rename_i ys hpk
              exact opok_buildSlice hd t n parts ho ti ht E hsh te he h1 h2 h3 out hf ys hpk _ h
            · exact h.elim
          · exact h.elim
        · exact h.elim
      · exact h.elim
    · exact h.elim
  · -- len
    rename_i args ts ho
    obtain ⟨x, t, rfl, rfl, h⟩ := h
    split at h
    · rename_i ti p ht hx
      split at h
      · rename_i n hn
        obtain ⟨h1, h2⟩ := h
        split at h1
        · rename_i e hsh
          refine opok_len hd x t ho ti ht (.inl ⟨e, hsh⟩) p hx n hn ⟨fun h => (by rw [hsh] at h; cases h), ?_⟩ (fun _ => h2)
          rintro ⟨z, rfl⟩
          cases h1
        · rename_i hsh
          refine opok_len hd x t ho ti ht (.inr hsh) p hx n hn ⟨fun _ => ?_, fun _ => hsh⟩ (fun _ => h2)
          unfold isStr at h1
          split at h1
          · exact ⟨_, rfl⟩
          · cases h1
        · exact h1.elim
      · exact h.elim
    · exact h.elim
  · -- min
    rename_i args ts ho
    obtain ⟨x, y, rfl, h⟩ := h
    split at h
    · rename_i k m k' n hx hy
      obtain ⟨rfl, h⟩ := h
      exact opok_min hd x y ts ho k m n hx hy h
    · exact h.elim
  · -- max
    rename_i args ts ho
    obtain ⟨x, y, rfl, h⟩ := h
    split at h
    · rename_i k m k' n hx hy
      obtain ⟨rfl, h⟩ := h
      exact opok_max hd x y ts ho k m n hx hy h
    · exact h.elim
  · -- append
    rename_i args ts ho
    obtain ⟨x, y, t, rfl, rfl, h⟩ := h
    split at h
    · rename_i ti px py ht hx hy
      split at h
      · rename_i E hsh
        split at h
        · rename_i te z he hz
          split at h
          · rename_i xs l ys hdx hsy
            obtain ⟨h1, h2, h3, h4, h5, h6⟩ := h
            exact opok_append hd x y t ho ti ht E hsh te he z hz h1 h2 h3 px py hx hy xs ys l hdx hsy h4 h5 _ h6
          · exact h.elim
        · exact h.elim
      · exact h.elim
    · exact h.elim
  · -- call
    rename_i fo args ts ho
    split at h
    · rename_i fa ds hfa hds
      split at h
      · rename_i f caps hc
        obtain ⟨res, hspec, kl, hkl, h⟩ := h
        exact opok_call hd fo args ts ho fa hfa f caps hc ds hds res hspec kl hkl _ h
      · exact h.elim
    · exact h.elim
  · obtain ⟨out, h1, h2⟩ := h
    exact xOut_ok hd h1 h2
end
end Go.AV
namespace Go.AV
open Go.RowKit
section
variable {B : Nat → Prop} {nt : Nat} {w0 : Base} {w : World} {s : AS} {a : Act} {gv : GV} {P : Program} {K : AS → Prop} [InvC P B w0]
def guardSlot (ops : Array Oper) (j : Nat) : Option Tmp := (ops[j]?).bind (·.dst)
def aG (P : Program) (ops : Array Oper) (o : Oper) (s : AS) (K : AS → Prop) : Prop :=
  match o.guard with
  | none => aOp P o s K
  | some (j, want) => match guardSlot ops j with
    | some d => match s.t d with
      | .one (.c (.bool b)) => (b = want → aOp P o s K) ∧ (b = !want → K (s.put o.dst (.tup [])))
      | .tup [] => K (s.put o.dst (.tup []))
      | _ => False
    | none => False
def aRun (P : Program) (ops : Array Oper) : List Oper → AS → (AS → Prop) → Prop
  | [], s, K => K s
  | o :: r, s, K => aG P ops o s fun s' => aRun P ops r s' K
theorem undef_ok : RepAV B w s gv (.tup []) Go.undef := .tup rfl (fun m hm => by simp at hm)
theorem aG_ok {ops : Array Oper} {o : Oper} (hd : ∀ x, o.dst = some x → x < nt) (hg : ∀ j b, o.guard = some (j, b) → ∀ d, guardSlot ops j = some d → d < nt) (h : aG P ops o s K) (hs : Sim B nt w0 s a w) (Q : Exit → Act → World → Prop) :
    if Region.wanted o (yielded ops a.tmps) then o.wp P a w (fun a' w' => ∃ s', K s' ∧ Sim B nt w0 s' a' w') Q else ∃ s', K s' ∧ Sim B nt w0 s' (a.put o.dst Go.undef) w := by
  obtain ⟨gv, hs, hK⟩ := hs
  unfold aG at h
  cases hgd : o.guard with
  | none =>
    rw [hgd] at h
    have : Region.wanted o (yielded ops a.tmps) = true := by simp [Region.wanted, hgd]
    rw [if_pos this]
    exact aOp_ok hd h a w ⟨gv, hs, hK⟩ Q
  | some p =>
    obtain ⟨j, want⟩ := p
    rw [hgd] at h
    simp only at h
    split at h
    · rename_i d hgs
      have hdlt := hg j want hgd d hgs
      have hsz := hs.size
      have hval := hs.tmps d
      have hlt : d < a.tmps.size := by rw [hsz]; exact hdlt
      have hget : a.tmps[d]? = some (a.tmps.getD d Go.undef) := by
        rw [Array.getElem?_eq_getElem hlt]
        simp only [Array.getD, hlt, dif_pos]
        rfl
      have hy : yielded ops a.tmps j = match a.tmps.getD d Go.undef with | .bool b => some b | _ => none := by
        unfold yielded
        unfold guardSlot at hgs
        rw [hgs]
        simp only [Option.bind_some, hget]
        cases a.tmps.getD d Go.undef <;> rfl
      split at h
      · rename_i b hb
        rw [hb] at hval
        have hv := hval.bool_inv
        rw [hv] at hy
        by_cases hbw : b = want
        · have : Region.wanted o (yielded ops a.tmps) = true := by simp [Region.wanted, hgd, hy, hbw]
          rw [if_pos this]
          exact aOp_ok hd (h.1 hbw) a w ⟨gv, hs, hK⟩ Q
        · have : ¬ Region.wanted o (yielded ops a.tmps) = true := by simp [Region.wanted, hgd, hy, hbw]
          rw [if_neg this]
          exact ⟨_, h.2 (by cases b <;> cases want <;> simp_all), gv, hs.put o.dst hd _ _ undef_ok, hK.putd _ _⟩
      · rename_i hb
        rw [hb] at hval
        have hv : a.tmps.getD d Go.undef = Go.undef := by
          generalize a.tmps.getD d Go.undef = v at hval
          cases hval with
          | @tup _ vs hn _ =>
            have : vs = #[] := by simpa using hn
            rw [this]; rfl
        rw [hv] at hy
        have hy' : yielded ops a.tmps j = none := by rw [hy]; rfl
        have : ¬ Region.wanted o (yielded ops a.tmps) = true := by simp [Region.wanted, hgd, hy']
        rw [if_neg this]
        exact ⟨_, h, gv, hs.put o.dst hd _ _ undef_ok, hK.putd _ _⟩
      · exact h.elim
    · exact h.elim
def slotsOk (nt : Nat) (ops : Array Oper) : Bool := ops.all fun o => (match o.dst with | some d => decide (d < nt) | none => true)
theorem slotsOk_get {ops : Array Oper} (h : slotsOk nt ops = true) {j : Nat} {o : Oper} (ho : ops[j]? = some o) : ∀ x, o.dst = some x → x < nt := by
  intro x hx
  have := Array.all_eq_true_iff_forall_mem.1 h o (Array.mem_of_getElem? ho)
  rw [hx] at this
  simpa using this
theorem slotsOk_guard {ops : Array Oper} (h : slotsOk nt ops = true) {j d : Nat} (hd : guardSlot ops j = some d) : d < nt := by
  unfold guardSlot at hd
  cases ho : ops[j]? with
  | none => simp [ho] at hd
  | some o => rw [ho] at hd; exact slotsOk_get h ho d hd
theorem filterMap_some {α β : Type} (f : α → Option β) (g : α → β) : ∀ (l : List α), (∀ x ∈ l, f x = some (g x)) → l.filterMap f = l.map g
  | [], _ => rfl
  | x :: l, h => by
    rw [List.filterMap_cons, h x (by simp)]
    simp only [List.map_cons]
    rw [filterMap_some f g l (fun y hy => h y (by simp [hy]))]
theorem filterMap_range (ops : Array Oper) : (List.range ops.size).filterMap (ops[·]?) = ops.toList := by
  rw [filterMap_some _ (fun j => (ops[j]?).getD default) _ (fun j hj => by
    have : j < ops.size := by simpa using hj
    simp [this])]
  apply List.ext_getElem?
  intro i
  rw [List.getElem?_map]
  rcases Nat.lt_or_ge i ops.size with h | h
  · rw [List.getElem?_range h]
    simp [h]
  · rw [List.getElem?_eq_none (by simpa using h)]
    simp [h]
def AWp (B : Nat → Prop) (nt : Nat) (w0 : Base) (P : Program) (c : Code) (Q : Exit → AS → Prop) (s : AS) : Prop :=
  ∀ a w, Sim B nt w0 s a w → c.wp P (fun e a' w' => ∃ s', Q e s' ∧ Sim B nt w0 s' a' w') a w
variable {Q : Exit → AS → Prop}
theorem awp_mono {c : Code} {Q' : Exit → AS → Prop} (h : AWp B nt w0 P c Q s) (hq : ∀ e s, Q e s → Q' e s) : AWp B nt w0 P c Q' s :=
  fun a w hs => wp_mono (h a w hs) fun e a' w' ⟨s', h1, h2⟩ => ⟨s', hq e s' h1, h2⟩
theorem awp_skip (h : Q .normal s) : AWp B nt w0 P .skip Q s := fun a w hs => wp_skip ⟨s, h, hs⟩
theorem awp_exit {id : Nat} (h : Q (.exit id) s) : AWp B nt w0 P (.exit id) Q s := fun a w hs => wp_exit ⟨s, h, hs⟩
theorem awp_ret (h : Q .ret s) : AWp B nt w0 P .ret Q s := fun a w hs => wp_ret ⟨s, h, hs⟩
def thenA (next : AS → Prop) (Q : Exit → AS → Prop) : Exit → AS → Prop
  | .normal, s => next s
  | e, s => Q e s
theorem awp_seq {x y : Code} (h : AWp B nt w0 P x (thenA (AWp B nt w0 P y Q) Q) s) : AWp B nt w0 P (.seq x y) Q s := by
  intro a w hs
  refine wp_seq (wp_mono (h a w hs) ?_)
  rintro e a' w' ⟨s', h1, h2⟩
  cases e with
  | normal => exact h1 a' w' h2
  | _ => exact ⟨s', h1, h2⟩
theorem awp_cond {c : Operand} {x y : Code} (b : Bool) (hc : s.ev c = .one (.c (.bool b))) (ht : b = true → AWp B nt w0 P x Q s) (hf : b = false → AWp B nt w0 P y Q s) : AWp B nt w0 P (.cond c x y) Q s := by
  intro a w hs
  obtain ⟨gv, hsg, hK⟩ := hs
  have hv := hsg.ev c
  rw [hc] at hv
  exact wp_cond_split hv.bool_inv (fun h => ht h a w ⟨gv, hsg, hK⟩) (fun h => hf h a w ⟨gv, hsg, hK⟩)
def inBlockA (id : Nat) (Q : Exit → AS → Prop) : Exit → AS → Prop
  | .exit id', s => if id' = id then Q .normal s else Q (.exit id') s
  | e, s => Q e s
theorem awp_block {id : Nat} {c : Code} (h : AWp B nt w0 P c (inBlockA id Q) s) : AWp B nt w0 P (.block id c) Q s := by
  intro a w hs
  refine wp_block (wp_mono (h a w hs) ?_)
  rintro e a' w' ⟨s', h1, h2⟩
  cases e with
  | exit id' =>
    simp only [inBlockA, Exit.inBlock] at h1 ⊢
    split
    · rename_i e; rw [if_pos e] at h1; exact ⟨s', h1, h2⟩
    · rename_i e; rw [if_neg e] at h1; exact ⟨s', h1, h2⟩
  | _ => exact ⟨s', h1, h2⟩
open Classical in
theorem act_put_same (a : Act) (d : Tmp) (hd : d < a.tmps.size) : a.put (some d) (a.tmps.getD d Go.undef) = a := by
  have h1 : (a.put (some d) (a.tmps.getD d Go.undef)).tmps = a.tmps := by
    rw [Act.put_tmps]
    apply Array.ext
    · simp
    · intro i h1 h2
      rw [Array.getElem_setIfInBounds (by simpa using h2)]
      split
      · rename_i e; subst e; simp [Array.getD, hd]
      · rfl
  have h2 := Act.put_defers a (some d) (a.tmps.getD d Go.undef)
  generalize a.put (some d) (a.tmps.getD d Go.undef) = b at h1 h2
  cases a
  cases b
  simp only at h1 h2
  rw [h1, h2]
def Ref (nt : Nat) (s s' : AS) : Prop := ∀ (B : Nat → Prop) (w0 : Base) (a : Act) (w : World), Sim B nt w0 s a w → Sim B nt w0 s' a w
theorem ref_adopt (d : Tmp) (i E sz : Nat) (hd : d < nt) (h0 : s.t d = .one .nil) : Ref nt s ((s.new i (.arr E sz [])).put (some d) (.one (.own i (s.N i)))) := by
  rintro B w0 a w ⟨gv, hs, hK⟩
  have hv := hs.tmps d
  rw [h0] at hv
  have hval : a.tmps.getD d Go.undef = .slice none 0 0 := by
    generalize a.tmps.getD d Go.undef = v at hv
    cases hv with | one hv => cases hv; rfl
  obtain ⟨gv', hs', hk', hg⟩ := hs.new (Below.refl _ _) i (.arr E sz []) (.slice none 0 0) (by intro b hb; simp [blkOf] at hb)
    (fun s' gv' _ _ => ⟨[], by simp, World.ownsRow_nil _ _ _ _, by simp [blkOf], rfl, fun m hm => by simp at hm⟩)
  have hput := hs'.put (some d) (fun x hx => by cases hx; exact hd) (.one (.own i (s.N i))) (a.tmps.getD d Go.undef) (.one (.own (by simp [AS.new]) (fun _ => by rw [hg]; exact hval)))
  rw [act_put_same a d (by rw [hs.size]; exact hd)] at hput
  exact ⟨gv', hput, (hK.trans hk').putd _ _⟩
end
end Go.AV
end
