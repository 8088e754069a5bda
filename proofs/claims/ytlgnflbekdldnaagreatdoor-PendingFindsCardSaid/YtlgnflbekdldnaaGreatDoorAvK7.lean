/- Texts Av7. -/
import Derived.Test.YtlgnflbekdldnaaGreatDoorAvK6
set_option linter.unusedVariables false
set_option linter.unusedSimpArgs false
set_option linter.unusedSectionVars false
noncomputable section
namespace Go.AV
open Go.RowKit
def spl {α : Type} (l : List α) (off : Nat) (cs : List α) : List α := l.take off ++ cs ++ l.drop (off + cs.length)
theorem spl_length {α : Type} (l : List α) (off : Nat) (cs : List α) (h : off + cs.length ≤ l.length) : (spl l off cs).length = l.length := by
  simp [spl]; omega
theorem spl_getD {α : Type} (l : List α) (off : Nat) (cs : List α) (h : off + cs.length ≤ l.length) (d : α) (m : Nat) :
    (spl l off cs).getD m d = if off ≤ m ∧ m < off + cs.length then cs.getD (m - off) d else l.getD m d := by
  unfold spl
  have hl : (l.take off).length = off := by simp; omega
  by_cases h1 : m < off
  · rw [if_neg (by omega), List.append_assoc, getD_app_l _ _ _ _ (by omega), getD_take _ _ _ _ h1]
  · by_cases h2 : m < off + cs.length
    · rw [if_pos (by omega), List.append_assoc, getD_app_r _ _ _ _ (by omega), getD_app_l _ _ _ _ (by omega), hl]
    · rw [if_neg (by omega), getD_app_r _ _ _ _ (by rw [List.length_append]; omega), getD_drop]
      congr 1
      rw [List.length_append]
      omega
section
variable {B : Nat → Prop} {nt : Nat} {w0 : Base} {w : World} {s : AS} {a : Act} {gv : GV} {P : Program} {o : Oper} {K : AS → Prop}
def AS.tb (s : AS) : A → Bool
  | .c _ => true
  | .nil => true
  | .own h v => (s.H h v).isSome
  | .ptr h v _ => (s.H h v).isSome
  | .eptr h v _ _ _ => (s.H h v).isSome
  | .fn _ _ => true
  | .any => false
theorem AS.told_of_tb {x : A} (h : s.tb x = true) : s.told x := by
  cases x with
  | c y => trivial
  | nil => trivial
  | own i v => intro e; simp [AS.tb, e] at h
  | ptr i v off => intro e; simp [AS.tb, e] at h
  | eptr i v sz k j => intro e; simp [AS.tb, e] at h
  | fn f caps => trivial
  | any => simp [AS.tb] at h
def AS.cellsO (s : AS) : AV → Option (List A)
  | .one x => if s.tb x then some [x] else none
  | .agg asx => if asx.all s.tb then some asx else none
  | _ => none
theorem AS.cellsOf_of {av : AV} {cs : List A} (h : s.cellsO av = some cs) : s.cellsOf av cs := by
  cases av with
  | one x =>
    simp only [AS.cellsO] at h
    split at h <;> cases h
    exact ⟨rfl, AS.told_of_tb ‹_›⟩
  | agg asx =>
    simp only [AS.cellsO] at h
    split at h <;> cases h
    rename_i hall
    exact ⟨rfl, fun x hx => AS.told_of_tb (List.all_eq_true.1 hall x hx)⟩
  | _ => cases h
theorem opok_newbox (hd : ∀ x, o.dst = some x → x < nt) (i : Nat) (T : TypeId) (cells : List A)
    (hk : K ((s.new i (.box cells)).put o.dst (.one (.ptr i (s.N i) 0))))
    (h : ∀ a w gv, SimG B nt w0 s a w gv → ∃ vals : Array Value, (execOp a.eval o).run P w = .ok (.value (.pointer (some ⟨w.heap.size, 0, none⟩))) (w.alloc (.cells vals T)) ∧ RepAs B w s gv cells vals.toList) : OpOK B P nt w0 o s K := by
  intro a w ⟨gv, hs, hK⟩ Q
  obtain ⟨vals, hr, hrep⟩ := h a w gv hs
  unfold Oper.wp
  rw [hr]
  have hb : Below w.heap.size w (w.alloc (.cells vals T)) := (Below.refl _ _).alloc (Nat.le_refl _) _
  obtain ⟨gv', hs', hk', hg⟩ := hs.new hb i (.box cells) (.pointer (some ⟨w.heap.size, 0, none⟩)) (by intro b hb'; simp [blkOf] at hb'; omega)
    (fun s' gv' hkeep hs' => ⟨w.heap.size, vals, T, rfl, .inl hs.below.size, heap_alloc_new w _, hkeep.asx hrep⟩)
  refine ⟨_, hk, gv', hs'.put o.dst hd _ _ (.one (.ptr (by simp [AS.new]) (fun _ => ⟨w.heap.size, by rw [hg]; rfl, rfl⟩))), (hK.trans hk').putd _ _⟩
def zeroOf (P : Program) (t : TypeId) : Option Value := (P.info? t).bind (·.zero)
theorem zeroValue_run {t : TypeId} {z : Value} (h : zeroOf P t = some z) : (zeroValue t).run P w = .ok z w := by
  unfold zeroOf at h
  cases hq : P.info? t with
  | none => simp [hq] at h
  | some i => simp [hq] at h; simp [zeroValue, typeInfo, hq, h]
theorem constCells_ok (z : Value) : RepAs B w s gv (z.cells.toList.map constA) z.cells.toList := constAs_ok _ _ _ _ _
theorem opok_alloc (hd : ∀ x, o.dst = some x → x < nt) (T : TypeId) (ho : o.op = .alloc T) (z : Value) (hz : zeroOf P T = some z) (i : Nat)
    (hk : K ((s.new i (.box (z.cells.toList.map constA))).put o.dst (.one (.ptr i (s.N i) 0)))) : OpOK B P nt w0 o s K :=
  opok_newbox hd i T _ hk fun a w gv hs => ⟨z.cells, by simp [execOp, ho, Instr.alloc, zeroValue_run hz, newVar, newRow], constCells_ok z⟩
theorem opok_box (hd : ∀ x, o.dst = some x → x < nt) (T : TypeId) (x : Operand) (ho : o.op = .box T x) (cs : List A) (hc : s.cellsO (s.ev x) = some cs) (i : Nat)
    (hk : K ((s.new i (.box cs)).put o.dst (.one (.ptr i (s.N i) 0)))) : OpOK B P nt w0 o s K :=
  opok_newbox hd i T _ hk fun a w gv hs => ⟨(a.eval x).cells, by simp [execOp, ho, Instr.box, newVar, newRow], (hs.cells (hs.ev x) (AS.cellsOf_of hc)).1⟩
theorem foldl_set (v : List Value) : ∀ (off k : Nat) (cells : Array Value), off + k + v.length ≤ cells.size →
    ((v.zipIdx k).foldl (fun cs (x : Value × Nat) => cs.setIfInBounds (off + x.2) x.1) cells).toList = spl cells.toList (off + k) v := by
  induction v with
  | nil => intro off k cells h; simp [spl]
  | cons x v ih =>
    intro off k cells h
    simp only [List.zipIdx_cons, List.foldl_cons]
    rw [ih off (k + 1) _ (by simp at h ⊢; omega)]
    simp only [Array.toList_setIfInBounds]
    have hk : off + k < cells.toList.length := by simp at h ⊢; omega
    apply List.ext_getElem
    · rw [spl_length _ _ _ (by simp at h ⊢; omega), spl_length _ _ _ (by simp at h ⊢; omega), List.length_set]
    · intro m h1 h2
      have e1 := spl_getD (cells.toList.set (off + k) x) (off + (k + 1)) v (by simp at h ⊢; omega) Go.undef m
      have e2 := spl_getD cells.toList (off + k) (x :: v) (by simp at h ⊢; omega) Go.undef m
      rw [getD_lt _ _ _ h1] at e1
      rw [getD_lt _ _ _ h2] at e2
      rw [e1, e2]
      by_cases hm : m = off + k
      · subst hm
        rw [if_neg (by omega), if_pos (by simp)]
        rw [getD_lt _ _ _ (by simpa using hk)]
        simp
      · by_cases hm2 : off + (k + 1) ≤ m ∧ m < off + (k + 1) + v.length
        · rw [if_pos hm2, if_pos (by simp; omega)]
          have : m - (off + k) = (m - (off + (k + 1))) + 1 := by omega
          rw [this, List.getD_cons_succ]
        · rw [if_neg hm2, if_neg (by simp; omega)]
          simp only [List.getD_eq_getElem?_getD, List.getElem?_set]
          rw [if_neg (by omega)]
theorem RepAs.spl {cells cs : List A} {vals us : List Value} (h : RepAs B w s gv cells vals) (h' : RepAs B w s gv cs us) (off : Nat) (hle : off + cs.length ≤ cells.length) :
    RepAs B w s gv (spl cells off cs) (spl vals off us) := by
  have hu : us.length = cs.length := h'.1
  have hv : vals.length = cells.length := h.1
  refine ⟨by rw [spl_length _ _ _ (by omega), spl_length _ _ _ hle, hv], fun m hm => ?_⟩
  rw [spl_getD _ _ _ hle, spl_getD _ _ _ (by omega), hu]
  rw [spl_length _ _ _ hle] at hm
  split
  · exact h'.2 _ (by omega)
  · exact h.2 _ hm
def AS.fill (s : AS) (fl : List (Nat × Nat × TypeId)) : List (Nat × Operand) → List A → Option (List A)
  | [], cells => some cells
  | (i, x) :: r, cells =>
    match fl[i]?, s.cellsO (s.ev x) with
    | some (off, sz, _), some cs => if cs.length = sz ∧ off + sz ≤ cells.length then s.fill fl r (spl cells off cs) else none
    | _, _ => none
theorem SimG.fill (hs : SimG B nt w0 s a w gv) (fl : List (Nat × Nat × TypeId)) (place : Nat → Option (Nat × Nat)) (hp : ∀ i off sz ft, fl[i]? = some (off, sz, ft) → place i = some (off, sz)) :
    ∀ (parts : List (Nat × Operand)) (cells out : List A) (vals : Array Value), RepAs B w s gv cells vals.toList → s.fill fl parts cells = some out →
      ∃ vals', Instr.fill place vals (parts.map fun p => (p.1, a.eval p.2)) = some vals' ∧ RepAs B w s gv out vals'.toList := by
  intro parts
  induction parts with
  | nil => intro cells out vals h ho; simp [AS.fill] at ho; subst ho; exact ⟨vals, rfl, h⟩
  | cons p r ih =>
    intro cells out vals h ho
    obtain ⟨i, x⟩ := p
    simp only [AS.fill] at ho
    split at ho
    · rename_i off sz ft cs h1 h2
      split at ho
      · rename_i hc
        obtain ⟨hc1, hc2⟩ := hc
        obtain ⟨hx, _, _⟩ := hs.cells (hs.ev x) (AS.cellsOf_of h2)
        have hxl : (a.eval x).cells.size = sz := by have := hx.1; simp at this; omega
        have hvl : vals.size = cells.length := by have := h.1; simpa using this
        have hfold := foldl_set (a.eval x).cells.toList off 0 vals (by simp; omega)
        obtain ⟨vals', e1, e2⟩ := ih (spl cells off cs) out _ (by
          rw [hfold]
          simp only [Nat.add_zero]
          exact h.spl hx off (by omega)) ho
        refine ⟨vals', ?_, e2⟩
        simp only [List.map_cons, Instr.fill, hp i off sz ft h1]
        rw [if_neg (by simp [hxl]; omega)]
        have hz : ((a.eval x).cells.zipIdx.foldl (fun cs (x : Value × Nat) => cs.setIfInBounds (off + x.2) x.1) vals) = (((a.eval x).cells.toList.zipIdx 0).foldl (fun cs (x : Value × Nat) => cs.setIfInBounds (off + x.2) x.1) vals) := by
          rw [← Array.foldl_toList, Array.toList_zipIdx]
        rw [hz]
        exact e1
      · cases ho
    · cases ho
theorem opok_build (hd : ∀ x, o.dst = some x → x < nt) (T : TypeId) (parts : Array (Nat × Operand)) (ho : o.op = .build T parts) (ti : TI) (ht : tiOf P T = some ti) (hsh : ti.sh = .struct) (z : Value) (hz : zeroOf P T = some z)
    (hp : ∀ x ∈ ti.flds, (P.info? x.2.2).isSome = true)
    (out : List A) (hf : s.fill ti.flds parts.toList (z.cells.toList.map constA) = some out) (hk : K (s.put o.dst (.agg out))) : OpOK B P nt w0 o s K :=
  opok_val hd _ hk fun a w gv hs => by
    obtain ⟨_, d, g1, g2, g3, g4, g5, g6, g7⟩ := tiOf_some ht
    rw [g7] at hsh
    cases d with
    | struct fields =>
      let place : Nat → Option (Nat × Nat) := fun i => (fields.map fun f => (f.offset, P.cellsOf f.type))[i]?
      obtain ⟨vals', h1, h2⟩ := hs.fill ti.flds place (fun i off sz ft h => by
        rw [g6] at h
        simp only [List.getElem?_map, Option.map_eq_some_iff, Array.getElem?_toList] at h
        obtain ⟨fd, hfd, he⟩ := h
        cases he
        simp [place, hfd]) parts.toList _ out z.cells (constCells_ok z) hf
      refine ⟨.agg vals', ?_, .agg h2⟩
      have hplaces : (fields.mapM fun f => (do pure (f.offset, ← sizeOf f.type) : Sem (Nat × Nat))).run P w = .ok (fields.map fun f => (f.offset, P.cellsOf f.type)) w := by
        have hall : ∀ f ∈ fields.toList, (P.info? f.type).isSome = true := by
          intro f hf'
          have := hp (f.offset, P.cellsOf f.type, f.type) (by rw [g6]; exact List.mem_map.2 ⟨f, hf', rfl⟩)
          simpa using this
        have hl : ∀ (l : List Field), (∀ f ∈ l, (P.info? f.type).isSome = true) → (l.mapM fun f => (do pure (f.offset, ← sizeOf f.type) : Sem (Nat × Nat))).run P w = .ok (l.map fun f => (f.offset, P.cellsOf f.type)) w := by
          intro l hl
          induction l with
          | nil => rfl
          | cons f l ih =>
            have h1 := hl f (by simp)
            cases hq : P.info? f.type with
            | none => simp [hq] at h1
            | some fi =>
              have ih' := ih (fun g hg => hl g (by simp [hg]))
              simp [List.mapM_cons, sizeOf_run hq, Program.cellsOf, hq] at ih' ⊢
              simp [ih']
        have := hl fields.toList hall
        rw [Array.mapM_eq_mapM_toList]
        simp only [Sem.run_map, this, Result.andThen_ok]
        rw [← Array.toList_map, Array.toArray_toList]
      have hq : ((parts.map fun (x : Nat × Operand) => (x.1, a.eval x.2)).toList) = parts.toList.map fun p => (p.1, a.eval p.2) := by simp
      have h1' : Instr.fill place z.cells ((parts.map fun (x : Nat × Operand) => (x.1, a.eval x.2)).toList) = some vals' := by rw [hq]; exact h1
      have hplace : place = fun i => (fields.map fun f => (f.offset, P.cellsOf f.type))[i]? := rfl
      rw [hplace] at h1'
      simp only [execOp, ho, Instr.build, Sem.run_bind, zeroValue_run hz, Result.andThen_ok, run_underlying g2, hplaces]
      simp only [h1', Sem.run_pure, Result.andThen_ok]
    | _ => simp [shOf] at hsh
end
end Go.AV
end
