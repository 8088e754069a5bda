/- Texts AvM2. -/
import Derived.MapKept
import Derived.Carry
import Derived.Laws.IdiomStrings
import Derived.Laws.BytesArg
import Derived.Laws.OwnMore
import Derived.Test.YtlgnflbekdldnaaGreatDoorAvK12
set_option linter.unusedVariables false
set_option linter.unusedSimpArgs false
set_option linter.unusedSectionVars false
noncomputable section
namespace Go.AV
open Go.RowKit Go.MapKept
def mfind (k : ByteArray) : List ByteArray → Option Nat
  | [] => none
  | x :: r => if x = k then some 0 else (mfind k r).map (· + 1)
def mget (ks : List ByteArray) (vs : List (List C)) (z : List C) (k : ByteArray) : List C :=
  match mfind k ks with
  | some i => vs.getD i []
  | none => z
def mhas (ks : List ByteArray) (k : ByteArray) : Bool := (mfind k ks).isSome
def mputK (ks : List ByteArray) (k : ByteArray) : List ByteArray := if mhas ks k then ks else ks ++ [k]
def mputV (ks : List ByteArray) (vs : List (List C)) (k : ByteArray) (x : List C) : List (List C) :=
  match mfind k ks with
  | some i => vs.set i x
  | none => vs ++ [x]
theorem mfind_none {k : ByteArray} {ks : List ByteArray} : mfind k ks = none ↔ k ∉ ks := by
  induction ks with
  | nil => simp [mfind]
  | cons x r ih =>
    simp only [mfind]
    by_cases h : x = k
    · simp [h]
    · rw [if_neg h]
      simp only [Option.map_eq_none_iff, ih, List.mem_cons, not_or]
      exact ⟨fun h2 => ⟨fun e => h e.symm, h2⟩, fun h2 => h2.2⟩
theorem mfind_some {k : ByteArray} {ks : List ByteArray} {i : Nat} (h : mfind k ks = some i) : i < ks.length ∧ ks.getD i .empty = k := by
  induction ks generalizing i with
  | nil => simp [mfind] at h
  | cons x r ih =>
    simp only [mfind] at h
    by_cases hx : x = k
    · rw [if_pos hx] at h
      cases h
      exact ⟨by simp, by simpa using hx⟩
    · rw [if_neg hx] at h
      simp only [Option.map_eq_some_iff] at h
      obtain ⟨j, hj, rfl⟩ := h
      obtain ⟨h1, h2⟩ := ih hj
      exact ⟨by simp; omega, by simpa using h2⟩
theorem mfind_of {k : ByteArray} {ks : List ByteArray} (hd : ks.Nodup) {i : Nat} (hi : i < ks.length) (h : ks.getD i .empty = k) : mfind k ks = some i := by
  cases e : mfind k ks with
  | none =>
    exfalso
    have := mfind_none.1 e
    rw [getD_lt _ _ _ hi] at h
    exact this (h ▸ List.getElem_mem hi)
  | some j =>
    obtain ⟨h1, h2⟩ := mfind_some e
    rw [getD_lt _ _ _ hi] at h
    rw [getD_lt _ _ _ h1] at h2
    have : i = j := by
      rcases Nat.lt_trichotomy i j with hlt | he | hlt
      · exact absurd (h.trans h2.symm) (List.pairwise_iff_getElem.1 hd i j hi h1 hlt)
      · exact he
      · exact absurd (h2.trans h.symm) (List.pairwise_iff_getElem.1 hd j i h1 hi hlt)
    rw [this]
section
variable {B : Nat → Prop} {nt : Nat} {w0 : Base} {w : World} {s : AS} {a : Act} {gv : GV} {P : Program} {o : Oper} {K : AS → Prop}
theorem mval_of {agg : Bool} {cs : List A} {v : Value} (hr : RepAV B w s gv (mkAV agg cs) v) (h1 : agg = false → cs.length = 1 ∧ v.oneCell' = true) : v = mval agg (fun i => v.cells.getD i Go.undef) v.cells.size := by
  cases agg with
  | true =>
    generalize hx : mkAV true cs = x at hr
    simp only [mkAV, if_true] at hx
    subst hx
    cases hr with
    | @agg _ vs h =>
      simp only [mval, if_true]
      congr 1
      apply Array.ext
      · simp [Value.cells]
      · intro i h1 h2
        simp [Value.cells, Array.getD, h1]
  | false =>
    simp only [mval, Bool.false_eq_true, if_false]
    rw [cells_one (h1 rfl).2]
    rfl
theorem MapAt.look {o : Option Obj} {agg : Bool} {ks : List ByteArray} {vs : List (List C)} {ents : Array MapEntry} {clock : Nat} {vals : Nat → Nat → Value} (h : MapAt o agg ks vs ents clock vals) (k : ByteArray) :
    (∀ x ∈ ents.toList, IsKey .string x.key) ∧
    ((mfind k ks = none ∧ Instr.findNow .string (.string k) ents.toList 0 = some none ∧ ∀ x ∈ ents.toList, x.key ≠ .string k) ∨
     ∃ i, mfind k ks = some i ∧ i < ks.length ∧ Instr.findNow .string (.string k) ents.toList 0 = some (some (i, mval agg (vals i) (vs.getD i []).length)) ∧ ∃ e, ents[i]? = some e ∧ e.key = .string k) := by
  have hk : ∀ x ∈ ents.toList, IsKey .string x.key := by
    intro x hx
    obtain ⟨i, hi, rfl⟩ := List.getElem_of_mem hx
    have hi' : i < ents.size := by simpa using hi
    have := (h.ent i (by rw [← h.size]; exact hi')).1
    have e : ents.getD i default = ents.toList[i] := by simp [Array.getD, hi']
    rw [← e, this]
    trivial
  refine ⟨hk, ?_⟩
  rcases findNow_spec (d := .string) (k := .string k) trivial ents.toList 0 hk with ⟨h1, h2⟩ | ⟨j, e, h1, h2, h3⟩
  · refine .inl ⟨mfind_none.2 (fun hm => ?_), h1, h2⟩
    obtain ⟨i, hi, rfl⟩ := List.getElem_of_mem hm
    have hi' : i < ents.size := by rw [h.size]; exact hi
    have := (h.ent i hi).1
    rw [getD_lt ks _ _ hi] at this
    have e : ents.getD i default = ents.toList[i]'(by simpa using hi') := by simp [Array.getD, hi']
    rw [e] at this
    exact h2 _ (List.getElem_mem _) this
  · have hj : j < ents.size := by
      have := (List.getElem?_eq_some_iff.1 h2).1
      simpa using this
    have hjk : j < ks.length := by rw [← h.size]; exact hj
    have he : ents.getD j default = e := by
      simp only [Array.getD, hj, dif_pos]
      simpa [hj] using h2
    obtain ⟨q1, q2⟩ := h.ent j hjk
    rw [he] at q1 q2
    rw [h3] at q1
    refine .inr ⟨j, mfind_of h.nodup hjk (by cases q1; rfl), hjk, ?_, e, by simpa using h2, h3⟩
    rw [h1, q2]
    simp
theorem opok_makeMap (hd : ∀ x, o.dst = some x → x < nt) (i : Nat) (t : TypeId) (ho : o.op = .makeMap t none) (agg : Bool) (hk : K ((s.new i (.map agg [] [])).put o.dst (.one (.own i (s.N i))))) : OpOK B P nt w0 o s K := by
  intro a w ⟨gv, hs, hK⟩ Q
  have hrun : (execOp a.eval o).run P w = .ok (.value (.map (some w.heap.size))) (w.alloc (.map #[] 0)) := by
    simp [execOp, ho, run_makeMap]
  have hb : Below w.heap.size w (w.alloc (.map #[] 0)) := (Below.refl _ _).alloc (Nat.le_refl _) _
  obtain ⟨gv', hs', hk', hg⟩ := hs.new hb i (.map agg [] []) (.map (some w.heap.size)) (by intro b hb'; simp [blkOf] at hb'; omega)
    (fun s' gv' hkeep hs' => ⟨w.heap.size, #[], 0, fun _ _ => Go.undef, rfl, .inl hs.below.size, ⟨(heap_alloc w _).1, rfl, rfl, by simp, List.nodup_nil, by simp, fun i hi => by simp at hi, fun i hi => by simp at hi, fun i j _ hj => by simp at hj⟩, fun i j hi => by simp at hi⟩)
  unfold Oper.wp
  rw [hrun]
  exact ⟨_, hk, gv', hs'.put o.dst hd _ _ (.one (.own (by simp [AS.new]) (fun _ => hg.symm))), (hK.trans hk').putd _ _⟩
def AS.mapOf (s : AS) : A → Option (Bool × List ByteArray × List (List C))
  | .own h v => match s.H h v with
    | some (.map agg ks vs) => some (agg, ks, vs)
    | _ => none
  | .c (.map agg ks vs) => some (agg, ks, vs)
  | _ => none
theorem SimG.mapOf (hs : SimG B nt w0 s a w gv) {x : A} {v : Value} {agg : Bool} {ks : List ByteArray} {vs : List (List C)} (hr : RepA B w s gv x v) (hm : s.mapOf x = some (agg, ks, vs)) :
    (v = .map none ∧ ks = [] ∧ vs = []) ∨ ∃ b ents clock vals, v = .map (some b) ∧ MapAt w.heap[b]? agg ks vs ents clock vals ∧ ∀ i j, i < vs.length → j < (vs.getD i []).length → RepC w (okb B s gv) ((vs.getD i []).getD j .junk) (vals i j) := by
  cases hr with
  | own hv hx =>
    simp only [AS.mapOf] at hm
    split at hm
    · rename_i agg' ks' vs' hH
      cases hm
      have := hx (by rw [hH]; simp)
      subst this
      obtain ⟨b, ents, clock, vals, hg, _, h2, h3⟩ := hs.live _ _ _ hH
      exact .inr ⟨b, ents, clock, vals, hg, h2, h3⟩
    · cases hm
  | @c y v h =>
    cases h with
    | nomap agg => simp [AS.mapOf] at hm; obtain ⟨_, rfl, rfl⟩ := hm; exact .inl ⟨rfl, rfl, rfl⟩
    | map agg ks vs b ents clock vals hok hb hm' hv => simp [AS.mapOf] at hm; obtain ⟨rfl, rfl, rfl⟩ := hm; exact .inr ⟨b, ents, clock, vals, rfl, hm', hv⟩
    | _ => simp [AS.mapOf] at hm
  | _ => simp [AS.mapOf] at hm
def lookAV (ok : Bool) (agg : Bool) (ks : List ByteArray) (vs : List (List C)) (z : List C) (k : ByteArray) : AV :=
  if ok then .tup [mkAV agg ((mget ks vs z k).map .c), .one (.c (.bool (mhas ks k)))] else mkAV agg ((mget ks vs z k).map .c)
theorem RepAV.ofC {ok : Bool} {agg : Bool} {cs : List C} {f : Nat → Value} (h1 : agg = false → cs.length = 1) (h : ∀ j, j < cs.length → RepC w (okb B s gv) (cs.getD j .junk) (f j)) : RepAV B w s gv (mkAV agg (cs.map .c)) (mval agg f cs.length) := by
  cases agg with
  | true =>
    simp only [mkAV, mval, if_true]
    refine .agg ⟨by simp, fun m hm => ?_⟩
    have hm' : m < cs.length := by simpa using hm
    rw [getD_map A.c _ _ C.junk _ hm']
    have e : (Array.ofFn (n := cs.length) fun i => f i).toList.getD m Go.undef = f m := by
      simp [List.getD_eq_getElem?_getD, hm']
    rw [e]
    exact .c (h m hm')
  | false =>
    have hl := h1 rfl
    simp only [mkAV, mval, Bool.false_eq_true, if_false]
    rw [getD_map A.c _ _ C.junk _ (by omega)]
    exact .one (.c (h 0 (by omega)))
theorem opok_lookup (hd : ∀ x, o.dst = some x → x < nt) (t : TypeId) (x ix : Operand) (ok : Bool) (ho : o.op = .lookup t x ix ok) (ti : TI) (ht : tiOf P t = some ti) (kt E : TypeId) (hsh : ti.sh = .map kt E) (tk : TI) (htk : tiOf P kt = some tk) (hsk : tk.sh = .string)
    (te : TI) (hte : tiOf P E = some te) (z : Value) (hz : zeroOf P E = some z) (zc : List C) (hzc : s.pks (z.cells.toList.map constA) = some zc) (hzl : te.agg = false → zc.length = 1) (hza : te.agg = true → ∃ cs, z = .agg cs)
    (p : A) (hp : s.ev x = .one p) (ks : List ByteArray) (vs : List (List C)) (hm : s.mapOf p = some (te.agg, ks, vs)) (k : ByteArray) (hk : s.ev ix = .one (.c (.str k)))
    (hz1 : te.agg = false → z.oneCell' = true)
    (hkk : K (s.put o.dst (lookAV ok te.agg ks vs zc k))) : OpOK B P nt w0 o s K :=
  opok_val hd _ hkk fun a w gv hs => by
    obtain ⟨i1, d1, h1, h2, _, _, _, _, h7⟩ := tiOf_some ht
    obtain ⟨i2, d2, g1, g2, _, _, _, _, g7⟩ := tiOf_some htk
    have e1 : d1 = .map kt E := by rw [h7] at hsh; cases d1 <;> simp [shOf] at hsh ⊢; exact hsh
    have e2 : d2 = .string := by rw [g7] at hsk; cases d2 <;> simp [shOf] at hsk ⊢
    subst e1 e2
    have hkv := hs.ev ix
    rw [hk] at hkv
    obtain ⟨hkv, hkl⟩ := hkv.str_inv
    have hpv := hs.ev x
    rw [hp] at hpv
    generalize hev : a.eval x = v at hpv
    cases hpv with | one hpv =>
    have hzr : (zeroValue E).run P w = .ok z w := by
      obtain ⟨i, d, q1, _⟩ := tiOf_some hte
      have : i.zero = some z := by simpa [zeroOf, q1] using hz
      simp [zeroValue, typeInfo, q1, this]
    -- what is not there
    have zrep : RepAV B w s gv (mkAV te.agg (zc.map .c)) z := by
      have hcs := hs.pks [] (constAs_ok B w s gv z.cells.toList) hzc (fun p hp => by
        exfalso
        have : owns (z.cells.toList.map constA) = [] := by
          induction z.cells.toList with
          | nil => rfl
          | cons y l ih =>
            simp only [List.map_cons]
            have : ∀ h v, constA y ≠ .own h v := by intro h v; unfold constA; (repeat' split) <;> simp
            cases hc : constA y <;> simp [owns, ih]
            exact absurd hc (this _ _)
        rw [this] at hp; cases hp)
      have hcs' : RepCs w (okb B s gv) zc z.cells.toList := hcs
      cases ha : te.agg with
      | true =>
        obtain ⟨cs, rfl⟩ := hza ha
        have := RepAV.ofC (B := B) (s := s) (gv := gv) (w := w) (ok := true) (agg := true) (cs := zc) (f := fun j => cs.toList.getD j Go.undef) (by simp) (fun j hj => hcs'.2 j hj)
        simp only [mval, if_true] at this
        have e : Array.ofFn (n := zc.length) (fun i => cs.toList.getD i Go.undef) = cs := by
          apply Array.ext
          · have := hcs'.1; simp [Value.cells] at this; simp [this]
          · intro i q1 q2; simp [q2]
        rw [e] at this
        exact this
      | false =>
        have := RepAV.ofC (B := B) (s := s) (gv := gv) (w := w) (ok := true) (agg := false) (cs := zc) (f := fun j => z.cells.toList.getD j Go.undef) (fun _ => hzl ha) (fun j hj => hcs'.2 j hj)
        simp only [mval, Bool.false_eq_true, if_false] at this
        rw [cells_one (hz1 ha)] at this
        exact this
    have key : ∃ u, (execOp a.eval o).run P w = .ok (.value (if ok then .tuple #[u, .bool (mhas ks k)] else u)) w ∧ RepAV B w s gv (mkAV te.agg ((mget ks vs zc k).map .c)) u := by
      rcases hs.mapOf hpv hm with ⟨rfl, rfl, rfl⟩ | ⟨b, ents, clock, vals, rfl, hM, hV⟩
      · refine ⟨z, ?_, by simpa [mget, mfind] using zrep⟩
        have h3 : (Instr.findKey kt (.string k) []).run P w = .ok none w := run_findKey (d := .string) g2 rfl
        cases ok <;> simp [execOp, ho, hev, hkv, Instr.lookup, run_underlying h2, run_checkKey (d := .string) (k := .string k) g2 trivial, h3, hzr, mhas, mfind]
      · obtain ⟨_, hl⟩ := hM.look k
        rcases hl with ⟨h1', h2', _⟩ | ⟨i, h1', hik, h2', _⟩
        · have h3 : (Instr.findKey kt (.string k) ents.toList).run P w = .ok none w := run_findKey (d := .string) g2 h2'
          have hnm : mhas ks k = false := by simp [mhas, h1']
          refine ⟨z, ?_, by simpa [mget, h1'] using zrep⟩
          cases ok <;> simp [execOp, ho, hev, hkv, Instr.lookup, run_underlying h2, MapKept.run_getObj_map hM.at_, run_checkKey (d := .string) (k := .string k) g2 trivial, h3, hzr, hnm]
        · have h3 : (Instr.findKey kt (.string k) ents.toList).run P w = .ok (some (i, mval te.agg (vals i) (vs.getD i []).length)) w := run_findKey (d := .string) g2 h2'
          have hmk : mhas ks k = true := by simp [mhas, h1']
          have hiv : i < vs.length := by rw [hM.len]; exact hik
          refine ⟨mval te.agg (vals i) (vs.getD i []).length, ?_, ?_⟩
          · cases ok <;> simp [execOp, ho, hev, hkv, Instr.lookup, run_underlying h2, MapKept.run_getObj_map hM.at_, run_checkKey (d := .string) (k := .string k) g2 trivial, h3, hmk]
          · simp only [mget, h1']
            exact RepAV.ofC (ok := true) (fun ha => hM.one ha _ (getD_mem _ _ _ hiv)) (fun j hj => hV i j hiv hj)
    obtain ⟨u, hrun, hrep⟩ := key
    refine ⟨_, hrun, ?_⟩
    cases ok with
    | false => exact hrep
    | true =>
      refine .tup rfl (fun m hm => ?_)
      have hm' : m = 0 ∨ m = 1 := by simp at hm; omega
      rcases hm' with rfl | rfl
      · exact hrep
      · exact .one (.c (.bool _))
theorem opok_mapUpdate (hd : o.dst = none) (t : TypeId) (m ix x : Operand) (ho : o.op = .mapUpdate t m ix x) (ti : TI) (ht : tiOf P t = some ti) (kt E : TypeId) (hsh : ti.sh = .map kt E) (tk : TI) (htk : tiOf P kt = some tk) (hsk : tk.sh = .string)
    (h v : Nat) (hp : s.ev m = .one (.own h v)) (agg : Bool) (ks : List ByteArray) (vs : List (List C)) (hH : s.H h v = some (.map agg ks vs)) (k : ByteArray) (hk : s.ev ix = .one (.c (.str k)))
    (cs : List A) (hx : s.cellsO (s.ev x) = some cs) (hag : s.ev x = mkAV agg cs) (hc1 : agg = false → cs.length = 1) (ys : List C) (hpk : s.pks cs = some ys) (hown : (h, v) ∉ owns cs)
    (hkk : K ((s.frzs (owns cs)).set h v (.map agg (mputK ks k) (mputV ks vs k ys)))) : OpOK B P nt w0 o s K := by
  intro a w ⟨gv, hs, hK⟩ Q
  obtain ⟨i1, d1, h1, h2, _, _, _, _, h7⟩ := tiOf_some ht
  obtain ⟨i2, d2, g1, g2, _, _, _, _, g7⟩ := tiOf_some htk
  have e1 : d1 = .map kt E := by rw [h7] at hsh; cases d1 <;> simp [shOf] at hsh ⊢; exact hsh
  have e2 : d2 = .string := by rw [g7] at hsk; cases d2 <;> simp [shOf] at hsk ⊢
  subst e1 e2
  have hkv := hs.ev ix
  rw [hk] at hkv
  obtain ⟨hkv, hkl⟩ := hkv.str_inv
  have hpv := hs.ev m
  rw [hp] at hpv
  generalize hev : a.eval m = mv at hpv
  cases hpv with | one hpv =>
  cases hpv with | own hv hxx =>
  have := hxx (by rw [hH]; simp)
  subst this
  obtain ⟨b, ents, clock, vals, hg, hfr, hM, hV⟩ := hs.live h v _ hH
  have hxv := hs.ev x
  obtain ⟨hxr, hone, _⟩ := hs.cells hxv (AS.cellsOf_of hx)
  have hxc := hs.pks (owns cs) hxr hpk (fun p hp => hp)
  have hyl : ys.length = cs.length := pks_length hpk
  obtain ⟨hs1, hk1⟩ := hs.frzs (owns cs)
  have hH1 : (s.frzs (owns cs)).H h v = some (.map agg ks vs) := by rw [frzs_H, if_neg hown]; exact hH
  have hsize : (a.eval x).cells.size = ys.length := by have := hxc.1; simpa using this
  have hmv : a.eval x = mval agg (fun i => (a.eval x).cells.getD i Go.undef) ys.length := by
    rw [← hsize]
    rw [hag] at hxv
    refine mval_of hxv (fun ha => ⟨hc1 ha, ?_⟩)
    subst ha
    have hl1 := hc1 rfl
    cases cs with
    | nil => simp at hl1
    | cons y cs' =>
      have he : s.ev x = .one y := by rw [hag]; rfl
      rw [he] at hx
      have htb : s.tb y = true := by
        simp only [AS.cellsO] at hx
        split at hx
        · assumption
        · cases hx
      have hxv' := hs.ev x
      rw [he] at hxv'
      cases hxv' with | one hy => exact hs.oneCell hy (AS.told_of_tb htb)
  have hvl : vs.length = ks.length := hM.len
  obtain ⟨hkeys, hl⟩ := hM.look k
  -- the new entries
  have key : ∃ ents' clock' vals', (execOp a.eval o).run P w = .ok .skip { w with heap := w.heap.setIfInBounds b (.map ents' clock') } ∧
      MapAt (some (.map ents' clock')) agg (mputK ks k) (mputV ks vs k ys) ents' clock' vals' ∧
      ∀ i j, i < (mputV ks vs k ys).length → j < ((mputV ks vs k ys).getD i []).length →
        (∃ i', i' < vs.length ∧ (mputV ks vs k ys).getD i [] = vs.getD i' [] ∧ vals' i = vals i') ∨ ((mputV ks vs k ys).getD i [] = ys ∧ vals' i = fun q => (a.eval x).cells.getD q Go.undef) := by
    rcases hl with ⟨q1, q2, q3⟩ | ⟨i0, q1, hi0, q2, e0, q3, q4⟩
    · have hnm : k ∉ ks := mfind_none.1 q1
      have eK : mputK ks k = ks ++ [k] := by simp [mputK, mhas, q1]
      have eV : mputV ks vs k ys = vs ++ [ys] := by simp [mputV, q1]
      refine ⟨ents.push { key := .string k, val := a.eval x, born := clock }, clock + 1, fun i => if i < vs.length then vals i else fun q => (a.eval x).cells.getD q Go.undef, ?_, ?_, ?_⟩
      · simp [execOp, ho, hev, hkv, hg, Instr.mapUpdate, run_underlying h2, MapKept.run_getObj_map hM.at_, run_checkKey (d := .string) (k := .string k) g2 trivial, run_findKey (d := .string) g2 q2, MapKept.run_setObj_map _ hM.at_]
      · rw [eK, eV]
        have hpl : ∀ i, i < ks.length → (ents.push { key := Value.string k, val := a.eval x, born := clock }).getD i default = ents.getD i default := fun i hik => by
          have hie : i < ents.size := by rw [hM.size]; exact hik
          simp [Array.getD, hie, Nat.lt_succ_of_lt hie, Array.getElem_push_lt hie]
        have hpn : (ents.push { key := Value.string k, val := a.eval x, born := clock }).getD ks.length default = { key := .string k, val := a.eval x, born := clock } := by simp [Array.getD, ← hM.size]
        refine ⟨rfl, by simp [hM.size], by simp [hvl], ?_, ?_, ?_, ?_, fun i hi => ?_, fun i j hij hj => ?_⟩
        rotate_left 4
        · by_cases hik : i < ks.length
          · rw [hpl i hik]; have := hM.born i hik; omega
          · obtain rfl : i = ks.length := by simp at hi; omega
            rw [hpn]; exact Nat.lt_succ_self _
        · by_cases hjk : j < ks.length
          · rw [hpl j hjk, hpl i (by omega)]; exact hM.bornNe i j hij hjk
          · obtain rfl : j = ks.length := by simp at hj; omega
            rw [hpn, hpl i hij]; exact Nat.ne_of_lt (hM.born i hij)
        · intro y hy
          rcases List.mem_append.1 hy with hy | hy
          · exact hM.keys y hy
          · obtain rfl : y = k := by simpa using hy
            exact hkl
        · rw [List.nodup_append]
          refine ⟨hM.nodup, by simp, fun y hy z hz e => ?_⟩
          obtain rfl : z = k := by simpa using hz
          exact hnm (e ▸ hy)
        · intro ha y hy
          rcases List.mem_append.1 hy with hy | hy
          · exact hM.one ha y hy
          · obtain rfl : y = ys := by simpa using hy
            rw [hyl]; exact hc1 ha
        · intro i hi
          by_cases hik : i < ks.length
          · have hie : i < ents.size := by rw [hM.size]; exact hik
            have e : (ents.push { key := Value.string k, val := a.eval x, born := clock }).getD i default = ents.getD i default := by
              simp [Array.getD, hie, Nat.lt_succ_of_lt hie, Array.getElem_push_lt hie]
            rw [e, getD_app_l _ _ _ _ hik, getD_app_l _ _ _ _ (by omega), if_pos (by omega)]
            exact hM.ent i hik
          · have hi2 : i = ks.length := by simp at hi; omega
            subst hi2
            have e : (ents.push { key := Value.string k, val := a.eval x, born := clock }).getD ks.length default = { key := .string k, val := a.eval x, born := clock } := by
              simp [Array.getD, ← hM.size]
            rw [e, getD_app_r _ _ _ _ (Nat.le_refl _), getD_app_r _ _ _ _ (by omega), hvl, if_neg (by omega)]
            rw [Nat.sub_self]
            exact ⟨rfl, hmv⟩
      · rw [eV]
        intro i j hi hj
        by_cases hiv : i < vs.length
        · refine .inl ⟨i, hiv, getD_app_l _ _ _ _ hiv, by simp only [if_pos hiv]⟩
        · have : i = vs.length := by simp at hi; omega
          subst this
          refine .inr ⟨by rw [getD_app_r _ _ _ _ (Nat.le_refl _)]; simp, by simp only [Nat.lt_irrefl, if_false]⟩
    · have eK : mputK ks k = ks := by simp [mputK, mhas, q1]
      have eV : mputV ks vs k ys = vs.set i0 ys := by simp [mputV, q1]
      have hi0v : i0 < vs.length := by omega
      have hi0e : i0 < ents.size := by rw [hM.size]; exact hi0
      refine ⟨ents.modify i0 fun e => { e with key := .string k, val := a.eval x }, clock, fun i => if i = i0 then fun q => (a.eval x).cells.getD q Go.undef else vals i, ?_, ?_, ?_⟩
      · simp [execOp, ho, hev, hkv, hg, Instr.mapUpdate, run_underlying h2, MapKept.run_getObj_map hM.at_, run_checkKey (d := .string) (k := .string k) g2 trivial, run_findKey (d := .string) g2 q2, q3, q4, run_keyThatStays (d := .string) (k := .string k) trivial, MapKept.run_setObj_map _ hM.at_]
      · rw [eK, eV]
        have hbm : ∀ i, i < ks.length → ((ents.modify i0 fun e => { e with key := .string k, val := a.eval x }).getD i default).born = (ents.getD i default).born := fun i hik => by
          have hie : i < ents.size := by rw [hM.size]; exact hik
          simp only [Array.getD, Array.size_modify, hie, dif_pos, Array.getInternal_eq_getElem, Array.getElem_modify]
          split <;> rfl
        refine ⟨rfl, by simp [hM.size], by simp [hvl], hM.keys, hM.nodup, ?_, ?_, fun i hi => by rw [hbm i hi]; exact hM.born i hi, fun i j hij hj => by rw [hbm i (by omega), hbm j hj]; exact hM.bornNe i j hij hj⟩
        · intro ha y hy
          rcases List.mem_or_eq_of_mem_set hy with hy | rfl
          · exact hM.one ha y hy
          · rw [hyl]; exact hc1 ha
        · intro i hi
          have hie : i < ents.size := by rw [hM.size]; exact hi
          have e : (ents.modify i0 fun e => { e with key := .string k, val := a.eval x }).getD i default = if i0 = i then { ents.getD i default with key := .string k, val := a.eval x } else ents.getD i default := by
            simp only [Array.getD, Array.size_modify, hie, dif_pos, Array.getInternal_eq_getElem, Array.getElem_modify]
          rw [e]
          by_cases hii : i = i0
          · subst hii
            have := (mfind_some q1).2
            simp only [if_true]
            refine ⟨by rw [this], ?_⟩
            rw [getD_lt _ _ _ (by simpa using hi0v)]
            simpa using hmv
          · rw [if_neg (fun e => hii e.symm), if_neg hii]
            have : (vs.set i0 ys).getD i [] = vs.getD i [] := by
              simp only [List.getD_eq_getElem?_getD, List.getElem?_set]
              rw [if_neg (fun e => hii e.symm)]
            rw [this]
            exact hM.ent i hi
      · rw [eV]
        intro i j hi hj
        by_cases hii : i = i0
        · subst hii
          exact .inr ⟨by rw [getD_lt _ _ _ (by simpa using hi0v)]; simp, by simp⟩
        · refine .inl ⟨i, by simpa using hi, ?_, by simp only [if_neg hii]⟩
          simp only [List.getD_eq_getElem?_getD, List.getElem?_set]
          rw [if_neg (fun e => hii e.symm)]
  obtain ⟨ents', clock', vals', hrun, hM', hV'⟩ := key
  have hblt : b < w.heap.size := (Array.getElem?_eq_some_iff.1 hM.at_).1
  obtain ⟨hs', hk'⟩ := hs1.set h v (by rw [hH1]; trivial) (.map agg (mputK ks k) (mputV ks vs k ys)) (w' := { w with heap := w.heap.setIfInBounds b (.map ents' clock') }) rfl rfl rfl (by simp)
    (fun q hq1 hq2 => (heap_set hM.at_).2 q (fun e => hq2 (by rw [hg, e]; rfl)))
    (fun hkeep => by
      refine ⟨b, ents', clock', vals', hg, hfr, ?_, fun i j hi hj => ?_⟩
      · rw [show ({ w with heap := w.heap.setIfInBounds b (.map ents' clock') } : World).heap[b]? = _ from (heap_set hM.at_).1]
        exact hM'
      · rcases hV' i j hi hj with ⟨i', hi', q1, q2⟩ | ⟨q1, q2⟩
        · rw [q1] at hj ⊢
          rw [q2]
          exact hkeep.c (hk1.c (hV i' j hi' hj))
        · rw [q1] at hj ⊢
          rw [q2]
          have := hkeep.c (hxc.2 j hj)
          simpa [Array.getD_eq_getD_getElem?, List.getD_eq_getElem?_getD] using this)
  unfold Oper.wp
  rw [hrun]
  refine ⟨_, hkk, gv, ?_, hK.trans (hk1.trans hk')⟩
  rw [hd]
  exact hs'
end
end Go.AV
namespace Go.AV
open Go.RowKit
section
variable {B : Nat → Prop} {nt : Nat} {w0 : Base} {w : World} {s : AS} {a : Act} {gv : GV} {P : Program} {o : Oper} {K : AS → Prop}
def bytesL (z : ByteArray) : List Int := z.data.toList.map fun b => (b.toNat : Int)
theorem bytesL_length (z : ByteArray) : (bytesL z).length = z.size := by
  rw [bytesL, List.length_map, Array.length_toList]; rfl
def numsOf : List (List C) → Option (List Int)
  | [] => some []
  | [.int .u8 n] :: r => match numsOf r with
    | some l => some (n :: l)
    | none => none
  | _ :: _ => none
theorem numsOf_ok : ∀ {xs : List (List C)} {l : List Int}, numsOf xs = some l → xs = l.map fun n => [C.int .u8 n] := by
  intro xs
  induction xs with
  | nil => intro l h; simp [numsOf] at h; subst h; rfl
  | cons x xs ih =>
    intro l h
    unfold numsOf at h
    split at h
    · cases ‹_ :: _ = []›
    · rename_i n r e
      cases e
      split at h
      · rename_i l' h'
        cases h
        rw [ih h']; rfl
      · cases h
    · cases h
theorem numsOf_map (l : List Int) : numsOf (l.map fun n => [C.int .u8 n]) = some l := by
  induction l with
  | nil => rfl
  | cons n l ih => simp only [List.map_cons, numsOf, ih]
def convAV (P : Program) (t u : TypeId) (x : AV) : Option AV :=
  match tiOf P t, tiOf P u, x with
  | some ti, some tu, .one (.c (.int _ n)) => match ti.sh, tu.sh with
    | .int _, .int k => some (.one (.c (.int k (k.wrap n))))
    | _, _ => none
  | some ti, some tu, .one (.c (.str z)) => match ti.sh, tu.sh with
    | .string, .slice e => match tiOf P e with
      | some te => match te.sh with
        | .int .u8 => some (.one (.c (.sl ((bytesL z).map fun n => [.int .u8 n]))))
        | _ => none
      | none => none
    | _, _ => none
  | some ti, some tu, .one (.c (.sl xs)) => match ti.sh, tu.sh, numsOf xs with
    | .slice e, .string, some l => match tiOf P e with
      | some te => match te.sh with
        | .int .u8 => some (.one (.c (.str (strOfNums l))))
        | _ => none
      | none => none
    | _, _, _ => none
  | _, _, _ => none
theorem opok_val_w (hd : ∀ x, o.dst = some x → x < nt) (av : AV) (hk : K (s.put o.dst av))
    (h : ∀ a w gv, SimG B nt w0 s a w gv → ∃ v w', (execOp a.eval o).run P w = .ok (.value v) w' ∧ Below w.heap.size w w' ∧ (SimG B nt w0 s a w' gv → RepAV B w' s gv av v)) : OpOK B P nt w0 o s K := by
  intro a w ⟨gv, hs, hK⟩ Q
  obtain ⟨v, w', hr, hb, hv⟩ := h a w gv hs
  unfold Oper.wp
  rw [hr]
  have hs' := hs.world hb
  have hk' : Keep B w s gv w' s gv := ⟨hb.size, fun _ _ h => h, fun b hlt _ => hb.block b hlt, fun _ => Nat.le_refl _, fun _ _ _ h => ⟨h, rfl⟩⟩
  exact ⟨_, hk, gv, hs'.put o.dst hd av v (hv hs'), (hK.trans hk').putd _ _⟩
theorem sh_string' {d : TypeDesc} (h : shOf d = .string) : d = .string := by cases d <;> simp [shOf] at h ⊢
theorem sh_slice' {d : TypeDesc} {e : TypeId} (h : shOf d = .slice e) : d = .slice e := by cases d <;> simp [shOf] at h ⊢; exact h
theorem sh_int' {d : TypeDesc} {k : IntKind} (h : shOf d = .int k) : d = .int k := by cases d <;> simp [shOf] at h ⊢; exact h
theorem opok_conv (hd : ∀ x, o.dst = some x → x < nt) (t u : TypeId) (x : Operand) (ho : o.op = .convert t u x) (v : AV) (h : convAV P t u (s.ev x) = some v) (hk : K (s.put o.dst v)) : OpOK B P nt w0 o s K := by
  unfold convAV at h
  split at h
  · rename_i ti tu j n ht hu hx
    split at h
    · rename_i k' k h1 h2
      cases h
      exact opok_convInt hd t u x ho ti ht tu hu _ _ h1 h2 j n hx hk
    · cases h
  · rename_i ti tu z ht hu hx
    split at h
    · rename_i e h1 h2
      split at h
      · rename_i te he
        split at h
        · rename_i h3
          cases h
          obtain ⟨_, d1, _, g2, _, _, _, _, g7⟩ := tiOf_some ht
          obtain ⟨_, d2, _, f2, _, _, _, _, f7⟩ := tiOf_some hu
          obtain ⟨_, d3, _, e2, _, _, _, _, e7⟩ := tiOf_some he
          have hd1 := sh_string' (g7.symm.trans h1)
          have hd2 := sh_slice' (f7.symm.trans h2)
          have hd3 := sh_int' (e7.symm.trans h3)
          subst hd1 hd2 hd3
          refine opok_val_w hd _ hk fun a w gv hs => ?_
          have hxv := hs.ev x
          rw [hx] at hxv
          obtain ⟨ez, hzm⟩ := hxv.str_inv
          refine ⟨_, _, by simp only [execOp, ho, ez]; rw [Sem.run_bind, run_bytes_of_string w t u e z g2 f2 e2]; rfl, (Below.refl _ _).drew.alloc (Nat.le_refl _) _, fun hs' => ?_⟩
          have hcap := grownCap_le_maxLen w z.size 0 e hzm
          have hge := grownCap_ge w z.size 0 e
          have hnew : (w.drew.alloc (.cells (bytesRow z (grownCap w z.size 0 e)) e ((bytesRow z (grownCap w z.size 0 e)).size, (bytesRow z (grownCap w z.size 0 e)).size + 1))).heap[w.heap.size]? = some (.cells (bytesRow z (grownCap w z.size 0 e)) e ((bytesRow z (grownCap w z.size 0 e)).size, (bytesRow z (grownCap w z.size 0 e)).size + 1)) := by
            exact heap_alloc_new w.drew _
          have hcell : ∀ m, m < z.size → (bytesRow z (grownCap w z.size 0 e))[m]? = some (.int .u8 ((bytesL z).getD m 0)) := by
            intro m hm
            have hm' : m < z.data.size := hm
            simp only [bytesRow]
            rw [Array.getElem?_append_left (by simpa using hm'), Array.getElem?_map, Array.getElem?_eq_getElem hm', getD_lt _ _ _ (by rw [bytesL_length]; exact hm)]
            simp [bytesL]
          have hlen : ((bytesL z).map fun n => [C.int .u8 n]).length = z.size := by simp [bytesL_length]
          have hsz1 : ∀ y ∈ ((bytesL z).map fun n => [C.int .u8 n]), y.length = 1 := by
            intro y hy
            obtain ⟨n, _, rfl⟩ := List.mem_map.1 hy
            rfl
          have hr := RepC.sl (w := (w.drew.alloc (.cells (bytesRow z (grownCap w z.size 0 e)) e ((bytesRow z (grownCap w z.size 0 e)).size, (bytesRow z (grownCap w z.size 0 e)).size + 1)))) (ok := okb B s gv) ((bytesL z).map fun n => [C.int .u8 n]) w.heap.size 0 (grownCap w z.size 0 e) 1 (fun m => .int .u8 ((bytesL z).getD m 0))
            ⟨hs.above _ (.inl hs.below.size), fun i v hi hb => by
              obtain ⟨bl, eb, hob⟩ := hi.ex
              have := ((hs.live i v bl eb).blk hob _ hb).2
              omega⟩ (Array.getElem?_eq_some_iff.1 hnew).1 (by rw [hlen]; exact hge) hcap hsz1
            (fun m hm => by
              rw [hlen, Nat.mul_one] at hm
              rw [cell_of_row _ w.heap.size _ _ e _ hnew, Nat.zero_add]
              exact hcell m hm)
            (fun m hm => by
              rw [hlen, Nat.mul_one] at hm
              have e1 : fl ((bytesL z).map fun n => [C.int .u8 n]) m = C.int .u8 ((bytesL z).getD m 0) := by
                have := flatten_getD (sz := 1) hsz1 m 0 (by rw [hlen]; exact hm) (by omega)
                rw [Nat.mul_one, Nat.add_zero] at this
                rw [this, getD_lt ((bytesL z).map fun n => [C.int .u8 n]) [] m (by rw [hlen]; exact hm), List.getElem_map, getD_lt (bytesL z) _ m (by rw [bytesL_length]; exact hm)]
                rfl
              rw [e1]
              refine .int _ _ ((wrap_iff _ _).2 ?_)
              rw [getD_lt _ _ _ (by rw [bytesL_length]; exact hm)]
              simp only [bytesL, List.getElem_map, lo, hi]
              have := (z.data.toList[m]'(by simpa using hm)).toNat_lt
              omega)
          rw [hlen] at hr
          exact .one (.c hr)
        · cases h
      · cases h
    · cases h
  · rename_i ti tu xs ht hu hx
    split at h
    · rename_i e l h1 h2 hn
      split at h
      · rename_i te he
        split at h
        · rename_i h3
          cases h
          obtain ⟨_, d1, _, g2, _, _, _, _, g7⟩ := tiOf_some ht
          obtain ⟨_, d2, _, f2, _, _, _, _, f7⟩ := tiOf_some hu
          obtain ⟨_, d3, _, e2, _, _, _, _, e7⟩ := tiOf_some he
          have hd1 := sh_slice' (g7.symm.trans h1)
          have hd2 := sh_string' (f7.symm.trans h2)
          have hd3 := sh_int' (e7.symm.trans h3)
          subst hd1 hd2 hd3
          have hxs := numsOf_ok hn
          refine opok_val hd _ hk fun a w gv hs => ?_
          have hxv := hs.ev x
          rw [hx] at hxv
          generalize hev : a.eval x = v at hxv
          cases hxv with
          | one hxv =>
            cases hxv with
            | c hxv =>
              cases hxv with
              | nil =>
                have hl0 : l = [] := by cases l with
                  | nil => rfl
                  | cons => simp at hxs
                subst hl0
                refine ⟨.string ByteArray.empty, ?_, .one (.c (.str _ (by decide)))⟩
                simp only [execOp, ho, hev]
                rw [Sem.run_bind, run_convert_bytes_nil w t e g2 e2 0 0 u f2]
                rfl
              | empty ad =>
                have hl0 : l = [] := by cases l with
                  | nil => rfl
                  | cons => simp at hxs
                subst hl0
                refine ⟨.string (strOfNums []), ?_, .one (.c (.str _ (by decide)))⟩
                have hl := run_loadCells_list (P := P) w ad [] (fun j v hj => by simp at hj)
                simp only [execOp, ho, hev]
                rw [Sem.run_bind, run_convert_bytes_string w t u e (some ad) 0 0 g2 e2 f2, run_bytesToString w ad 0 0 [] (by simpa using hl)]
                rfl
              | sl _ b off cap sz vals hok hb hle hm hsz hc hv =>
                have hlen : xs.length = l.length := by rw [hxs]; simp
                refine ⟨.string (strOfNums l), ?_, .one (.c (.str _ (by rw [strOfNums_size]; omega)))⟩
                have hsz1 : 0 < xs.length → sz = 1 := fun hp => by
                  have h1 := hsz (xs[0]) (List.getElem_mem hp)
                  have h2 : xs[0] = [C.int .u8 (l[0]'(by omega))] := by simp [hxs]
                  rw [h2] at h1
                  simpa using h1.symm
                have hcell : ∀ i, i < xs.length → w.cell? ⟨b, off + i, none⟩ = some (.int .u8 (l.getD i 0)) := by
                  intro i hi
                  have hs1 := hsz1 (by omega)
                  subst hs1
                  have hci := hc i (by omega)
                  have hvi := hv i (by omega)
                  have h0 := flatten_getD (sz := 1) hsz i 0 hi (by omega)
                  rw [Nat.mul_one, Nat.add_zero] at h0
                  have hi' : i < l.length := by omega
                  have h2 : (xs.getD i []).getD 0 .junk = C.int .u8 l[i] := by
                    rw [getD_lt _ _ _ hi]
                    simp [hxs]
                  rw [h0, h2] at hvi
                  rw [hci, getD_lt l _ _ hi']
                  generalize vals i = vv at hvi
                  cases hvi
                  rfl
                simp only [execOp, ho, hev]
                rw [Sem.run_bind, run_convert_bytes_arg w t e g2 e2 b off xs.length cap l hlen.symm hcell u f2]
                rfl
        · cases h
      · cases h
    · cases h
  · cases h
theorem opok_nilCheck (hd : ∀ x, o.dst = some x → x < nt) (x : Operand) (ho : o.op = .nilCheck x) (pa : A) (hp : s.ev x = .one pa) (hok : s.ptrOk 0 pa) (hk : K (s.put o.dst (.one pa))) : OpOK B P nt w0 o s K :=
  opok_val hd _ hk fun a w gv hs => by
    have hv := hs.ev x
    rw [hp] at hv
    generalize hev : a.eval x = v at hv
    cases hv with
    | one hv =>
      obtain ⟨b, off, rfl, _⟩ := hs.adv 0 hv hok
      exact ⟨_, by simp [execOp, ho, hev], .one hv⟩
theorem opok_makeSlice (hd : ∀ x, o.dst = some x → x < nt) (i : Nat) (t : TypeId) (l c : Operand) (ho : o.op = .makeSlice t l c) (ti : TI) (ht : tiOf P t = some ti) (e : TypeId) (hsh : ti.sh = .slice e) (te : TI) (he : tiOf P e = some te)
    (z : Value) (hz : zeroOf P e = some z) (n : Nat) (kl kc : IntKind) (hl : s.ev l = .one (.c (.int kl n))) (hc : s.ev c = .one (.c (.int kc n))) (hb : n * te.bytes ≤ 281474976710656) (hn : n ≤ maxLen) (hzs : z.cells.size = te.size) (hpos : 0 < te.size)
    (zc : List C) (hzc : s.pks (z.cells.toList.map constA) = some zc) (hone : ∀ u ∈ z.cells.toList, u.oneCell' = true) (hown : owns (z.cells.toList.map constA) = [])
    (hk : K ((s.new i (.arr e te.size (List.replicate n zc))).put o.dst (.one (.own i (s.N i))))) : OpOK B P nt w0 o s K := by
  intro a w ⟨gv, hs, hK⟩ Q
  obtain ⟨_, d, g1, g2, g3, g4, g5, g6, g7⟩ := tiOf_some ht
  have hd' := sh_slice' (g7.symm.trans hsh)
  subst hd'
  obtain ⟨ie, de, f1, f2, f3, f4, f5, f6, f7⟩ := tiOf_some he
  have hzi : ie.zero = some z := by simpa [zeroOf, f1] using hz
  have hlv := (hs.ev l)
  rw [hl] at hlv
  have hcv := (hs.ev c)
  rw [hc] at hcv
  obtain ⟨w', hr, hrow, hgr⟩ := run_make_full (P := P) w w.heap.size t e ie z te.size g2 f1 hzi f4.symm kl kc n (by rw [Nat.mul_comm, ← f5]; exact hb) hn (Nat.le_refl _)
  have hbel : Below w.heap.size w w' := ⟨hgr.os, hgr.tape, hgr.output, hgr.size, fun k hk => hgr.block k hk (by simp)⟩
  have hpk := pks_get hzc
  obtain ⟨gv', hs', hk', hg⟩ := hs.new hbel i (.arr e te.size (List.replicate n zc)) (.slice (some ⟨w.heap.size, 0, none⟩) n n) (by intro b hb'; simp [blkOf] at hb'; omega)
    (fun s' gv' hkeep hs' => by
      have hzl : zc.length = te.size := by
        rw [pks_length hzc]; simp [hzs]
      refine ⟨(madeCells z.cells (n * te.size)).toList, fun x hx => by rw [List.eq_of_mem_replicate hx]; exact hzl, by rw [List.length_replicate]; exact ownsRow_base hrow (Nat.zero_le _), fun b hb' => ?_, ?_⟩
      · simp [blkOf] at hb'
        exact .inl (by have := hs.below.size; omega)
      · have hfl : (List.replicate n zc).flatten.length = n * te.size := by rw [flatten_length (sz := te.size) (fun x hx => by rw [List.eq_of_mem_replicate hx]; exact hzl), List.length_replicate]
        refine ⟨by rw [hfl]; simp [size_madeCells], fun m hm => ?_⟩
        rw [hfl] at hm
        have hmod : m % te.size < te.size := Nat.mod_lt _ hpos
        have hdiv : m / te.size < n := (Nat.div_lt_iff_lt_mul hpos).2 hm
        have e1 : (List.replicate n zc).flatten.getD m .junk = zc.getD (m % te.size) .junk := by
          have := flatten_getD (xs := List.replicate n zc) (sz := te.size) (fun x hx => by rw [List.eq_of_mem_replicate hx]; exact hzl) (m / te.size) (m % te.size) (by simpa using hdiv) hmod
          unfold fl at this
          rw [Nat.mul_comm, Nat.div_add_mod] at this
          rw [this, getD_lt (List.replicate n zc) [] (m / te.size) (by simpa using hdiv), List.getElem_replicate]
        have e2 : (madeCells z.cells (n * te.size)).toList.getD m Go.undef = z.cells.toList.getD (m % te.size) Go.undef := by
          rw [getD_lt _ _ _ (by simp [size_madeCells]; exact hm), getD_lt _ _ _ (by simp [hzs]; exact hmod)]
          simp [madeCells, hzs, hmod]
        rw [e1, e2]
        have hc1 := constAs_ok B w s gv z.cells.toList
        have hr1 := hc1.2 (m % te.size) (by simp [hzs]; exact hmod)
        have hp1 := hpk (m % te.size) (by simp [hzs]; exact hmod)
        have := hs.pk [] hr1 hp1 (fun h u he => by
          have hmem := mem_owns (getD_mem (z.cells.toList.map constA) A.any (m % te.size) (by simp [hzs]; exact hmod)) he
          rw [hown] at hmem
          exact hmem)
        exact hkeep.c this)
  unfold Oper.wp
  have hrun : (execOp a.eval o).run P w = .ok (.value (.slice (some ⟨w.heap.size, 0, none⟩) n n)) w' := by
    simp only [execOp, ho, hlv.int_inv.1, hcv.int_inv.1]
    rw [Sem.run_bind, hr]
    rfl
  rw [hrun]
  exact ⟨_, hk, gv', hs'.put o.dst hd _ _ (.one (.own (by simp [AS.new]) (fun _ => hg.symm))), (hK.trans hk').putd _ _⟩
end
end Go.AV
end
