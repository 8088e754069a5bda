/- Texts Av2. -/
import Derived.Test.YtlgnflbekdldnaaGreatDoorAvK1
set_option linter.unusedVariables false
set_option linter.unusedSimpArgs false
set_option linter.unusedSectionVars false
noncomputable section
namespace Go.AV
open Go.RowKit
inductive A where
  | c (x : C)
  | nil
  | own (h v : Nat)
  | ptr (h v off : Nat)
  | eptr (h v sz i j : Nat)
  | fn (f : FuncId) (caps : List A)
  | any
  deriving Inhabited
inductive AV where
  | one (a : A)
  | agg (asx : List A)
  | tup (vs : List AV)
  | undef
  deriving Inhabited
inductive Blk where
  | box (cells : List A)
  | arr (E sz : Nat) (xs : List (List C))
  | frz (c : C)
  | map (agg : Bool) (ks : List ByteArray) (vs : List (List C))
  | iter (agg : Bool) (ks : List ByteArray) (vs : List (List C)) (done : List ByteArray)
def Blk.ow : Blk → Prop
  | .frz _ => False
  | _ => True
def Ow : Option Blk → Prop
  | some b => b.ow
  | none => False
theorem Ow.ne {o : Option Blk} (h : Ow o) : o ≠ none := by intro e; rw [e] at h; exact h
theorem Ow.ex {o : Option Blk} (h : Ow o) : ∃ b, o = some b ∧ b.ow := by
  cases o with
  | none => exact h.elim
  | some b => exact ⟨b, rfl, h⟩
structure AS where
  t : Nat → AV
  H : Nat → Nat → Option Blk
  N : Nat → Nat
def blkOf : Value → Option Nat
  | .pointer (some a) => some a.block
  | .slice (some a) _ _ => some a.block
  | .map (some b) => some b
  | _ => none
theorem blkOf_ownBlock {v : Value} {b : Nat} (h : v.ownBlock = some b) : blkOf v = some b := by
  unfold Value.ownBlock at h
  split at h
  · exact h
  · cases h
abbrev GV := Nat → Nat → Value
structure Base where
  w : World
  mine : Nat → Prop
  ow : World
  os : AS
  ogv : GV
def Base.fr (w0 : Base) (b : Nat) : Prop := w0.w.heap.size ≤ b ∨ w0.mine b
structure Beneath (mine : Nat → Prop) (w w' : World) : Prop where
  os : w'.os = w.os
  tape : w'.tape = w.tape
  output : w'.output = w.output
  size : w.heap.size ≤ w'.heap.size
  block : ∀ k, k < w.heap.size → ¬ mine k → w'.heap[k]? = w.heap[k]?
theorem Beneath.refl (mine : Nat → Prop) (w : World) : Beneath mine w w := ⟨rfl, rfl, rfl, Nat.le_refl _, fun _ _ _ => rfl⟩
theorem Beneath.below {w w' : World} (h : Beneath (fun _ => False) w w') : Below w.heap.size w w' := ⟨h.os, h.tape, h.output, h.size, fun k hk => h.block k hk id⟩
theorem Beneath.then {mine : Nat → Prop} {w w1 w2 : World} (h : Beneath mine w w1) (hos : w2.os = w1.os) (htape : w2.tape = w1.tape) (hout : w2.output = w1.output) (hsize : w1.heap.size ≤ w2.heap.size)
    (hb : ∀ k, k < w.heap.size → ¬ mine k → w2.heap[k]? = w1.heap[k]?) : Beneath mine w w2 :=
  ⟨hos.trans h.os, htape.trans h.tape, hout.trans h.output, Nat.le_trans h.size hsize, fun k hk hm => (hb k hk hm).trans (h.block k hk hm)⟩
def okb (B : Nat → Prop) (s : AS) (gv : GV) (b : Nat) : Prop := B b ∧ ∀ h v, Ow (s.H h v) → blkOf (gv h v) ≠ some b
class InvC (P : Program) (B : Nat → Prop) (w0 : Base) : Prop where
  inv : Inv P w0.ow (okb B w0.os w0.ogv)
inductive RepA (B : Nat → Prop) (w : World) (s : AS) (gv : GV) : A → Value → Prop
  | c {x : C} {v : Value} (h : RepC w (okb B s gv) x v) : RepA B w s gv (.c x) v
  | nil : RepA B w s gv .nil (.slice none 0 0)
  | own {h v : Nat} {x : Value} (hv : v < s.N h) (hx : s.H h v ≠ none → x = gv h v) : RepA B w s gv (.own h v) x
  | ptr {h v off : Nat} {x : Value} (hv : v < s.N h) (hx : s.H h v ≠ none → ∃ b, blkOf (gv h v) = some b ∧ x = .pointer (some ⟨b, off, none⟩)) : RepA B w s gv (.ptr h v off) x
  | eptr {h v sz i j : Nat} {x : Value} (hv : v < s.N h) (hx : s.H h v ≠ none → ∃ b, blkOf (gv h v) = some b ∧ x = .pointer (some ⟨b, i * sz + j, none⟩)) : RepA B w s gv (.eptr h v sz i j) x
  | fn {f : FuncId} {caps : List A} {vs : Array Value} (hn : vs.size = caps.length)
      (hv : ∀ m, m < caps.length → RepA B w s gv (caps.getD m .any) (vs.getD m Go.undef)) : RepA B w s gv (.fn f caps) (.func (.func f) #[] vs)
  | any {v : Value} : RepA B w s gv .any v
def RepAs (B : Nat → Prop) (w : World) (s : AS) (gv : GV) (asx : List A) (vs : List Value) : Prop :=
  vs.length = asx.length ∧ ∀ m, m < asx.length → RepA B w s gv (asx.getD m .any) (vs.getD m Go.undef)
inductive RepAV (B : Nat → Prop) (w : World) (s : AS) (gv : GV) : AV → Value → Prop
  | one {a : A} {v : Value} (h : RepA B w s gv a v) : RepAV B w s gv (.one a) v
  | agg {asx : List A} {vs : Array Value} (h : RepAs B w s gv asx vs.toList) : RepAV B w s gv (.agg asx) (.agg vs)
  | tup {xs : List AV} {vs : Array Value} (hn : vs.size = xs.length) (h : ∀ m, m < xs.length → RepAV B w s gv (xs.getD m .undef) (vs.getD m Go.undef)) : RepAV B w s gv (.tup xs) (.tuple vs)
  | undef {v : Value} : RepAV B w s gv .undef v
def RepB (B : Nat → Prop) (w0 : Base) (w : World) (s : AS) (gv : GV) (g : Value) : Blk → Prop
  | .box cells => ∃ b vals T, g = .pointer (some ⟨b, 0, none⟩) ∧ w0.fr b ∧ w.heap[b]? = some (.cells vals T (0, 0)) ∧ RepAs B w s gv cells vals.toList
  | .arr E sz xs => ∃ vals, (∀ x ∈ xs, x.length = sz) ∧ w.ownsRow 0 E sz g xs.length vals ∧ (∀ b, blkOf g = some b → w0.fr b) ∧ RepCs w (okb B s gv) xs.flatten vals
  | .frz c => RepC w (okb B s gv) c g
  | .map agg ks vs => ∃ (b : Nat) (ents : Array MapEntry) (clock : Nat) (vals : Nat → Nat → Value), g = .map (some b) ∧ w0.fr b ∧ MapAt w.heap[b]? agg ks vs ents clock vals ∧
      (∀ i j, i < vs.length → j < (vs.getD i []).length → RepC w (okb B s gv) ((vs.getD i []).getD j .junk) (vals i j))
  | .iter agg ks vs done => ∃ (r : Nat) (mo : Option Nat) (since last : Nat) (seen : Array Nat), g = .pointer (some ⟨r, 0, none⟩) ∧ w0.fr r ∧ w.heap[r]? = some (.mapIter mo since seen last) ∧ IterOn w (okb B s gv) agg ks vs done mo since last seen
structure SimG (B : Nat → Prop) (nt : Nat) (w0 : Base) (s : AS) (a : Act) (w : World) (gv : GV) : Prop where
  above : ∀ b, w0.fr b → B b
  defers : a.defers = []
  size : a.tmps.size = nt
  below : Beneath w0.mine w0.w w
  ver : ∀ h v, s.H h v ≠ none → v < s.N h
  live : ∀ h v blk, s.H h v = some blk → RepB B w0 w s gv (gv h v) blk
  inj : ∀ h v h' v' b, Ow (s.H h v) → Ow (s.H h' v') → blkOf (gv h v) = some b → blkOf (gv h' v') = some b → h = h' ∧ v = v'
  tmps : ∀ i, RepAV B w s gv (s.t i) (a.tmps.getD i Go.undef)
structure Keep (B : Nat → Prop) (w : World) (s : AS) (gv : GV) (w' : World) (s' : AS) (gv' : GV) : Prop where
  size : w.heap.size ≤ w'.heap.size
  ok : ∀ b, b < w.heap.size → okb B s gv b → okb B s' gv' b
  heap : ∀ b, b < w.heap.size → okb B s gv b → w'.heap[b]? = w.heap[b]?
  num : ∀ h, s.N h ≤ s'.N h
  old : ∀ h v, v < s.N h → s'.H h v ≠ none → s.H h v ≠ none ∧ gv' h v = gv h v
def Sim (B : Nat → Prop) (nt : Nat) (w0 : Base) (s : AS) (a : Act) (w : World) : Prop := ∃ gv, SimG B nt w0 s a w gv ∧ Keep B w0.ow w0.os w0.ogv w s gv
theorem Keep.refl (B : Nat → Prop) (w : World) (s : AS) (gv : GV) : Keep B w s gv w s gv := ⟨Nat.le_refl _, fun _ _ h => h, fun _ _ _ => rfl, fun _ => Nat.le_refl _, fun _ _ _ h => ⟨h, rfl⟩⟩
theorem Keep.trans {B : Nat → Prop} {w : World} {s : AS} {gv : GV} {w' : World} {s' : AS} {gv' : GV} {w'' : World} {s'' : AS} {gv'' : GV} (h : Keep B w s gv w' s' gv') (k : Keep B w' s' gv' w'' s'' gv'') : Keep B w s gv w'' s'' gv'' :=
  ⟨Nat.le_trans h.size k.size, fun b hb ho => k.ok b (Nat.lt_of_lt_of_le hb h.size) (h.ok b hb ho), fun b hb ho => (k.heap b (Nat.lt_of_lt_of_le hb h.size) (h.ok b hb ho)).trans (h.heap b hb ho), fun i => Nat.le_trans (h.num i) (k.num i),
    fun i v hv hn => by
      obtain ⟨h1, h2⟩ := k.old i v (Nat.lt_of_lt_of_le hv (h.num i)) hn
      obtain ⟨h3, h4⟩ := h.old i v hv h1
      exact ⟨h3, h2.trans h4⟩⟩
theorem Keep.put {B : Nat → Prop} {w : World} {s : AS} {gv : GV} {w' : World} {s' : AS} {gv' : GV} (h : Keep B w s gv w' s' gv') (t : Nat → AV) : Keep B w s gv w' { s' with t := t } gv' := ⟨h.size, h.ok, h.heap, h.num, h.old⟩
theorem Keep.c {B : Nat → Prop} {w : World} {s : AS} {gv : GV} {w' : World} {s' : AS} {gv' : GV} (k : Keep B w s gv w' s' gv') {x : C} {v : Value} (h : RepC w (okb B s gv) x v) : RepC w' (okb B s' gv') x v :=
  h.mono k.ok k.size k.heap
theorem Keep.cs {B : Nat → Prop} {w : World} {s : AS} {gv : GV} {w' : World} {s' : AS} {gv' : GV} (k : Keep B w s gv w' s' gv') {x : List C} {v : List Value} (h : RepCs w (okb B s gv) x v) : RepCs w' (okb B s' gv') x v :=
  h.mono k.ok k.size k.heap
theorem Keep.a {B : Nat → Prop} {w : World} {s : AS} {gv : GV} {w' : World} {s' : AS} {gv' : GV} (k : Keep B w s gv w' s' gv') {x : A} {v : Value} (h : RepA B w s gv x v) : RepA B w' s' gv' x v := by
  induction h with
  | c h => exact .c (k.c h)
  | nil => exact .nil
  | @own h v x hv hx => exact .own (Nat.lt_of_lt_of_le hv (k.num h)) (fun hn => by
      obtain ⟨h1, h2⟩ := k.old h v hv hn
      rw [h2]; exact hx h1)
  | @ptr h v off x hv hx => exact .ptr (Nat.lt_of_lt_of_le hv (k.num h)) (fun hn => by
      obtain ⟨h1, h2⟩ := k.old h v hv hn
      rw [h2]; exact hx h1)
  | @eptr h v sz i j x hv hx => exact .eptr (Nat.lt_of_lt_of_le hv (k.num h)) (fun hn => by
      obtain ⟨h1, h2⟩ := k.old h v hv hn
      rw [h2]; exact hx h1)
  | fn hn hv ih => exact .fn hn ih
  | any => exact .any
theorem Keep.asx {B : Nat → Prop} {w : World} {s : AS} {gv : GV} {w' : World} {s' : AS} {gv' : GV} (k : Keep B w s gv w' s' gv') {x : List A} {v : List Value} (h : RepAs B w s gv x v) : RepAs B w' s' gv' x v :=
  ⟨h.1, fun m hm => k.a (h.2 m hm)⟩
theorem Keep.av {B : Nat → Prop} {w : World} {s : AS} {gv : GV} {w' : World} {s' : AS} {gv' : GV} (k : Keep B w s gv w' s' gv') {x : AV} {v : Value} (h : RepAV B w s gv x v) : RepAV B w' s' gv' x v := by
  induction h with
  | one h => exact .one (k.a h)
  | agg h => exact .agg (k.asx h)
  | tup hn h ih => exact .tup hn ih
  | undef => exact .undef
theorem ownsRow_same {w w' : World} {base : Nat} {e : TypeId} {size : Nat} {v : Value} {n : Nat} {xs : List Value} (h : w.ownsRow base e size v n xs)
    (hb : ∀ b, blkOf v = some b → w'.heap[b]? = w.heap[b]?) : w'.ownsRow base e size v n xs := by
  refine ⟨h.1, ?_⟩
  rcases h.2 with hn | ⟨g, cap, cur, rfl, hb', hg, rest⟩
  · exact .inl hn
  · exact .inr ⟨g, cap, cur, rfl, hb', by rw [hb g rfl]; exact hg, rest⟩
theorem Keep.b {B : Nat → Prop} {w0 : Base} {w : World} {s : AS} {gv : GV} {w' : World} {s' : AS} {gv' : GV} (k : Keep B w s gv w' s' gv') {g : Value} {blk : Blk} (h : RepB B w0 w s gv g blk)
    (hg : blk.ow → ∀ b, blkOf g = some b → w'.heap[b]? = w.heap[b]?) : RepB B w0 w' s' gv' g blk := by
  cases blk with
  | frz xs => exact k.c h
  | map agg ks vs =>
    obtain ⟨b, ents, clock, vals, rfl, h1, h2, h8⟩ := h
    exact ⟨b, ents, clock, vals, rfl, h1, by rw [hg trivial b rfl]; exact h2, fun i j hi hj => k.c (h8 i j hi hj)⟩
  | iter agg ks vs done =>
    obtain ⟨r, mo, since, last, seen, rfl, h1, h2, h3⟩ := h
    exact ⟨r, mo, since, last, seen, rfl, h1, by rw [hg trivial r rfl]; exact h2, h3.mono k.ok k.size k.heap⟩
  | box cells =>
    obtain ⟨b, vals, T, rfl, h1, h2, h3⟩ := h
    exact ⟨b, vals, T, rfl, h1, by rw [hg trivial b rfl]; exact h2, k.asx h3⟩
  | arr E sz xs =>
    obtain ⟨vals, h1, h2, h4, h3⟩ := h
    exact ⟨vals, h1, ownsRow_same h2 (hg trivial), h4, k.cs h3⟩
theorem RepB.blk {B : Nat → Prop} {w0 : Base} {w : World} {s : AS} {gv : GV} {g : Value} {blk : Blk} (h : RepB B w0 w s gv g blk) (ho : blk.ow) : ∀ b, blkOf g = some b → w0.fr b ∧ b < w.heap.size := by
  intro b hb
  cases blk with
  | frz xs => exact ho.elim
  | map agg ks vs =>
    obtain ⟨b', ents, clock, vals, rfl, h1, h2, _⟩ := h
    obtain rfl : b' = b := by simpa [blkOf] using hb
    exact ⟨h1, (Array.getElem?_eq_some_iff.1 h2.at_).1⟩
  | iter agg ks vs done =>
    obtain ⟨r, mo, since, last, seen, rfl, h1, h2, _⟩ := h
    obtain rfl : r = b := by simpa [blkOf] using hb
    exact ⟨h1, (Array.getElem?_eq_some_iff.1 h2).1⟩
  | box cells =>
    obtain ⟨b', vals, T, rfl, h1, h2, h3⟩ := h
    obtain rfl : b' = b := by simpa [blkOf] using hb
    exact ⟨h1, (Array.getElem?_eq_some_iff.1 h2).1⟩
  | arr E sz xs =>
    obtain ⟨vals, h1, h2, h4, h3⟩ := h
    refine ⟨h4 b hb, ?_⟩
    rcases h2.2 with ⟨rfl, _⟩ | ⟨g', cap, cur, rfl, hb', hg, rest⟩
    · simp [blkOf] at hb
    · obtain rfl : g' = b := by simpa [blkOf] using hb
      exact (Array.getElem?_eq_some_iff.1 hg).1
def AS.put (s : AS) (d : Option Tmp) (v : AV) : AS :=
  match d with
  | some d => { s with t := fun i => if i = d then v else s.t i }
  | none => s
def AS.new (s : AS) (h : Nat) (b : Blk) : AS :=
  { s with H := fun i v => if i = h ∧ v = s.N h then some b else s.H i v, N := fun i => if i = h then s.N h + 1 else s.N i }
def AS.set (s : AS) (h v : Nat) (b : Blk) : AS :=
  { s with H := fun i u => if i = h ∧ u = v then some b else s.H i u }
def AS.kill (s : AS) (h v : Nat) : AS :=
  { s with H := fun i u => if i = h ∧ u = v then none else s.H i u }
theorem Keep.putd {B : Nat → Prop} {w : World} {s : AS} {gv : GV} {w' : World} {s' : AS} {gv' : GV} (h : Keep B w s gv w' s' gv') (d : Option Tmp) (v : AV) : Keep B w s gv w' (s'.put d v) gv' := by cases d <;> exact ⟨h.size, h.ok, h.heap, h.num, h.old⟩
def frzB : Option Blk → Option Blk
  | some (.arr _ _ xs) => some (.frz (.sl xs))
  | some (.map agg ks vs) => some (.frz (.map agg ks vs))
  | some (.frz c) => some (.frz c)
  | _ => none
def AS.frz (s : AS) (h v : Nat) : AS :=
  { s with H := fun i u => if i = h ∧ u = v then frzB (s.H i u) else s.H i u }
theorem frzB_frzB (x : Option Blk) : frzB (frzB x) = frzB x := by
  cases x with
  | none => rfl
  | some b => cases b <;> rfl
theorem frzB_ow (x : Option Blk) : ¬ Ow (frzB x) := by
  cases x with
  | none => exact id
  | some b => cases b <;> exact id
theorem frzB_ne {x : Option Blk} (h : frzB x ≠ none) : x ≠ none := by
  intro e; subst e; exact h rfl
theorem Act.put_tmps (a : Act) (d : Tmp) (v : Value) : (a.put (some d) v).tmps = a.tmps.setIfInBounds d v := rfl
theorem Act.put_defers (a : Act) (d : Option Tmp) (v : Value) : (a.put d v).defers = a.defers := by cases d <;> rfl
theorem Act.put_size (a : Act) (d : Option Tmp) (v : Value) : (a.put d v).tmps.size = a.tmps.size := by cases d <;> simp [Act.put]
theorem SimG.put {B : Nat → Prop} {nt : Nat} {w0 : Base} {w : World} {s : AS} {a : Act} {gv : GV} (h : SimG B nt w0 s a w gv) (d : Option Tmp) (hd : ∀ x, d = some x → x < nt) (av : AV) (v : Value) (hv : RepAV B w s gv av v) :
    SimG B nt w0 (s.put d av) (a.put d v) w gv := by
  cases d with
  | none => exact h
  | some d =>
    have hk : Keep B w s gv w (s.put (some d) av) gv := ⟨Nat.le_refl _, fun _ _ h => h, fun _ _ _ => rfl, fun _ => Nat.le_refl _, fun _ _ _ h => ⟨h, rfl⟩⟩
    refine ⟨h.above, h.defers, by rw [Act.put_size]; exact h.size, h.below, h.ver, fun i u blk hb => hk.b (h.live i u blk hb) (fun _ _ _ => rfl), h.inj, fun i => ?_⟩
    rw [Act.put_tmps]
    have hlt := hd d rfl
    by_cases e : i = d
    · subst e
      have : (a.tmps.setIfInBounds i v).getD i Go.undef = v := by
        have := h.size
        simp [Array.getD, this, hlt]
      rw [this]
      simp only [AS.put, if_true]
      exact hk.av hv
    · have : (a.tmps.setIfInBounds d v).getD i Go.undef = a.tmps.getD i Go.undef := by
        simp only [Array.getD_eq_getD_getElem?, Array.getElem?_setIfInBounds]
        rw [if_neg (fun h => e h.symm)]
      rw [this]
      simp only [AS.put, if_neg e]
      exact hk.av (h.tmps i)
theorem SimG.world {B : Nat → Prop} {nt : Nat} {w0 : Base} {w w' : World} {s : AS} {a : Act} {gv : GV} (h : SimG B nt w0 s a w gv) (hb : Below w.heap.size w w') : SimG B nt w0 s a w' gv := by
  have hk : Keep B w s gv w' s gv := ⟨hb.size, fun _ _ h => h, fun b hlt _ => hb.block b hlt, fun _ => Nat.le_refl _, fun _ _ _ h => ⟨h, rfl⟩⟩
  refine ⟨h.above, h.defers, h.size, h.below.then hb.os hb.tape hb.output hb.size (fun k hlt _ => hb.block k (Nat.lt_of_lt_of_le hlt h.below.size)), h.ver, fun i u blk hx => hk.b (h.live i u blk hx) (fun ho b hbk => hb.block b ((h.live i u blk hx).blk ho b hbk).2), h.inj, fun i => hk.av (h.tmps i)⟩
theorem SimG.kill {B : Nat → Prop} {nt : Nat} {w0 : Base} {w : World} {s : AS} {a : Act} {gv : GV} (h : SimG B nt w0 s a w gv) (i v : Nat) :
    SimG B nt w0 (s.kill i v) a w gv ∧ Keep B w s gv w (s.kill i v) gv := by
  have hH : ∀ j u, (s.kill i v).H j u ≠ none → s.H j u ≠ none := by
    intro j u hj
    simp only [AS.kill] at hj
    split at hj
    · exact absurd rfl hj
    · exact hj
  have hO : ∀ j u, Ow ((s.kill i v).H j u) → Ow (s.H j u) := by
    intro j u hj
    simp only [AS.kill] at hj
    split at hj
    · exact hj.elim
    · exact hj
  have hk : Keep B w s gv w (s.kill i v) gv := ⟨Nat.le_refl _, fun b _ hb => ⟨hb.1, fun j u hj => hb.2 j u (hO j u hj)⟩, fun _ _ _ => rfl, fun _ => Nat.le_refl _, fun j u _ hj => ⟨hH j u hj, rfl⟩⟩
  refine ⟨⟨h.above, h.defers, h.size, h.below, fun j u hj => h.ver j u (hH j u hj), fun j u blk hj => ?_, fun j u j' u' b h1 h2 => h.inj j u j' u' b (hO j u h1) (hO j' u' h2), fun j => hk.av (h.tmps j)⟩, hk⟩
  have : s.H j u = some blk := by
    simp only [AS.kill] at hj
    split at hj
    · cases hj
    · exact hj
  exact hk.b (h.live j u blk this) (fun _ _ _ => rfl)
theorem SimG.new {B : Nat → Prop} {nt : Nat} {w0 : Base} {w w' : World} {s : AS} {a : Act} {gv : GV} (h : SimG B nt w0 s a w gv) (hb : Below w.heap.size w w') (i : Nat) (blk : Blk) (g : Value)
    (hfresh : ∀ b, blkOf g = some b → w.heap.size ≤ b)
    (hrep : ∀ s' gv', Keep B w s gv w' s' gv' → s' = s.new i blk → RepB B w0 w' s' gv' g blk) :
    ∃ gv', SimG B nt w0 (s.new i blk) a w' gv' ∧ Keep B w s gv w' (s.new i blk) gv' ∧ gv' i (s.N i) = g := by
  let gv' : GV := fun j u => if j = i ∧ u = s.N i then g else gv j u
  have hH : ∀ j u, (s.new i blk).H j u ≠ none → (j = i ∧ u = s.N i) ∨ (¬ (j = i ∧ u = s.N i) ∧ s.H j u ≠ none) := by
    intro j u hj
    by_cases e : j = i ∧ u = s.N i
    · exact .inl e
    · refine .inr ⟨e, ?_⟩
      simpa only [AS.new, if_neg e] using hj
  have hO : ∀ j u, Ow ((s.new i blk).H j u) → (j = i ∧ u = s.N i) ∨ (¬ (j = i ∧ u = s.N i) ∧ Ow (s.H j u)) := by
    intro j u hj
    by_cases e : j = i ∧ u = s.N i
    · exact .inl e
    · refine .inr ⟨e, ?_⟩
      simpa only [AS.new, if_neg e] using hj
  have hgi : gv' i (s.N i) = g := by simp [gv']
  have hgo : ∀ j u, ¬ (j = i ∧ u = s.N i) → gv' j u = gv j u := fun j u e => by simp only [gv', if_neg e]
  have hk : Keep B w s gv w' (s.new i blk) gv' := by
    refine ⟨hb.size, fun b hlt hok => ⟨hok.1, fun j u hj => ?_⟩, fun b hlt _ => hb.block b hlt, fun j => ?_, fun j u hu hj => ?_⟩
    · rcases hO j u hj with ⟨rfl, rfl⟩ | ⟨e, hj'⟩
      · rw [hgi]
        intro hbk
        have := hfresh b hbk
        omega
      · rw [hgo j u e]
        exact hok.2 j u hj'
    · simp only [AS.new]
      split
      · rename_i e; subst e; omega
      · exact Nat.le_refl _
    · rcases hH j u hj with ⟨rfl, rfl⟩ | ⟨e, hj'⟩
      · omega
      · exact ⟨hj', hgo j u e⟩
  refine ⟨gv', ⟨h.above, h.defers, h.size, h.below.then hb.os hb.tape hb.output hb.size (fun k hlt _ => hb.block k (Nat.lt_of_lt_of_le hlt h.below.size)), fun j u hj => ?_, fun j u blk' hj => ?_, fun j u j' u' b h1 h2 h3 h4 => ?_, fun j => hk.av (h.tmps j)⟩, hk, hgi⟩
  · rcases hH j u hj with ⟨rfl, rfl⟩ | ⟨e, hj'⟩
    · simp [AS.new]
    · have := h.ver j u hj'
      simp only [AS.new]
      split
      · rename_i e'; subst e'; omega
      · exact this
  · by_cases e : j = i ∧ u = s.N i
    · obtain ⟨rfl, rfl⟩ := e
      have : blk = blk' := by simpa [AS.new] using hj
      subst this
      rw [hgi]
      exact hrep _ _ hk rfl
    · have hj' : s.H j u = some blk' := by simpa only [AS.new, if_neg e] using hj
      rw [hgo j u e]
      exact hk.b (h.live j u blk' hj') (fun ho b hbk => hb.block b ((h.live j u blk' hj').blk ho b hbk).2)
  · rcases hO j u h1 with ⟨rfl, rfl⟩ | ⟨e, hj'⟩
    · rcases hO j' u' h2 with ⟨rfl, rfl⟩ | ⟨e', hj''⟩
      · exact ⟨rfl, rfl⟩
      · rw [hgi] at h3
        rw [hgo j' u' e'] at h4
        have hx := hfresh b h3
        obtain ⟨blk2, hb2, ho2⟩ := hj''.ex
        have := ((h.live j' u' blk2 hb2).blk ho2 b h4).2
        omega
    · rcases hO j' u' h2 with ⟨rfl, rfl⟩ | ⟨e', hj''⟩
      · rw [hgi] at h4
        rw [hgo j u e] at h3
        have hx := hfresh b h4
        obtain ⟨blk2, hb2, ho2⟩ := hj'.ex
        have := ((h.live j u blk2 hb2).blk ho2 b h3).2
        omega
      · rw [hgo j u e] at h3
        rw [hgo j' u' e'] at h4
        exact h.inj j u j' u' b hj' hj'' h3 h4
theorem SimG.set {B : Nat → Prop} {nt : Nat} {w0 : Base} {w w' : World} {s : AS} {a : Act} {gv : GV} (h : SimG B nt w0 s a w gv) (i v : Nat) (hl : Ow (s.H i v)) (blk : Blk)
    (hos : w'.os = w.os) (htape : w'.tape = w.tape) (hout : w'.output = w.output) (hsize : w.heap.size ≤ w'.heap.size)
    (hblk : ∀ b, b < w.heap.size → blkOf (gv i v) ≠ some b → w'.heap[b]? = w.heap[b]?)
    (hrep : Keep B w s gv w' (s.set i v blk) gv → RepB B w0 w' (s.set i v blk) gv (gv i v) blk) :
    SimG B nt w0 (s.set i v blk) a w' gv ∧ Keep B w s gv w' (s.set i v blk) gv := by
  have hH : ∀ j u, (s.set i v blk).H j u ≠ none → s.H j u ≠ none := by
    intro j u hj
    by_cases e : j = i ∧ u = v
    · obtain ⟨rfl, rfl⟩ := e; exact hl.ne
    · simpa only [AS.set, if_neg e] using hj
  have hO : ∀ j u, Ow ((s.set i v blk).H j u) → Ow (s.H j u) := by
    intro j u hj
    by_cases e : j = i ∧ u = v
    · obtain ⟨rfl, rfl⟩ := e; exact hl
    · simpa only [AS.set, if_neg e] using hj
  have hk : Keep B w s gv w' (s.set i v blk) gv :=
    ⟨hsize, fun b _ hb => ⟨hb.1, fun j u hj => hb.2 j u (hO j u hj)⟩, fun b hlt hok => hblk b hlt (hok.2 i v hl), fun _ => Nat.le_refl _, fun j u _ hj => ⟨hH j u hj, rfl⟩⟩
  have hlo : ∀ b, blkOf (gv i v) = some b → w0.fr b := by
    intro b hb
    obtain ⟨bl, e, ho⟩ := hl.ex
    exact ((h.live i v bl e).blk ho b hb).1
  refine ⟨⟨h.above, h.defers, h.size, h.below.then hos htape hout hsize (fun k hlt hm => hblk k (Nat.lt_of_lt_of_le hlt h.below.size) (fun e => by rcases hlo k e with h' | h'; (· omega); exact hm h')),
    fun j u hj => h.ver j u (hH j u hj), fun j u blk' hj => ?_, fun j u j' u' b h1 h2 => h.inj j u j' u' b (hO j u h1) (hO j' u' h2), fun j => hk.av (h.tmps j)⟩, hk⟩
  by_cases e : j = i ∧ u = v
  · obtain ⟨rfl, rfl⟩ := e
    have : blk = blk' := by simpa [AS.set] using hj
    subst this
    exact hrep hk
  · have hj' : s.H j u = some blk' := by simpa only [AS.set, if_neg e] using hj
    refine hk.b (h.live j u blk' hj') (fun ho b hbk => hblk b ((h.live j u blk' hj').blk ho b hbk).2 (fun e2 => e ?_))
    exact h.inj j u i v b (by rw [hj']; exact ho) hl hbk e2
end Go.AV
end
