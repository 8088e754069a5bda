/- The abstract state of a frame, and its relation to the model's. -/
import Derived.Test.YtlgnflbekdldnaaAv1
set_option linter.unusedVariables false
set_option linter.unusedSimpArgs false
namespace Go.AV
open Go.RowKit

/-- An abstract cell: a pure cell; the nil slice; a slice of the frame's own (block h, version v); a pointer into a variable of the frame's own; a pointer to cell j of element i of such a slice; a function value; anything. -/
inductive A where
  | c (x : C)
  | nil
  | own (h v : Nat)
  | ptr (h v off : Nat)
  | eptr (h v sz i j : Nat)
  | fn (f : FuncId) (caps : List A)
  | any
  deriving Inhabited

inductive AV where
  | one (a : A)
  | agg (as : List A)
  | tup (vs : List AV)
  | undef
  deriving Inhabited

/-- A block of the frame's own: a variable's cells, or a slice's elements. -/
inductive Blk where
  | box (cells : List A)
  | arr (E sz : Nat) (xs : List (List C))

structure AS where
  t : Nat → AV
  H : Nat → Nat → Option Blk
  N : Nat → Nat

def blkOf : Value → Option Nat
  | .pointer (some a) => some a.block
  | .slice (some a) _ _ => some a.block
  | _ => none

theorem blkOf_ownBlock {v : Value} {b : Nat} (h : v.ownBlock = some b) : blkOf v = some b := by
  unfold Value.ownBlock at h
  split at h
  · exact h
  · cases h

abbrev GV := Nat → Nat → Value

/-- Blocks of which nothing of the frame's own is made; 'B' tells the blocks that may be met at all. -/
def okb (B : Nat → Prop) (s : AS) (gv : GV) (b : Nat) : Prop := B b ∧ ∀ h v, s.H h v ≠ none → blkOf (gv h v) ≠ some b

inductive RepA (B : Nat → Prop) (w : World) (s : AS) (gv : GV) : A → Value → Prop
  | c {x : C} {v : Value} (h : RepC w (okb B s gv) x v) : RepA B w s gv (.c x) v
  | nil : RepA B w s gv .nil (.slice none 0 0)
  | own {h v : Nat} {x : Value} (hv : v < s.N h) (hx : s.H h v ≠ none → x = gv h v) : RepA B w s gv (.own h v) x
  | ptr {h v off : Nat} {x : Value} (hv : v < s.N h) (hx : s.H h v ≠ none → ∃ b, blkOf (gv h v) = some b ∧ x = .pointer (some ⟨b, off, none⟩)) : RepA B w s gv (.ptr h v off) x
  | eptr {h v sz i j : Nat} {x : Value} (hv : v < s.N h) (hx : s.H h v ≠ none → ∃ b, blkOf (gv h v) = some b ∧ x = .pointer (some ⟨b, i * sz + j, none⟩)) : RepA B w s gv (.eptr h v sz i j) x
  | fn {f : FuncId} {caps : List A} {vs : Array Value} (hn : vs.size = caps.length)
      (hv : ∀ m, m < caps.length → RepA B w s gv (caps.getD m .any) (vs.getD m Go.undef)) : RepA B w s gv (.fn f caps) (.func (.func f) #[] vs)
  | any {v : Value} : RepA B w s gv .any v

def RepAs (B : Nat → Prop) (w : World) (s : AS) (gv : GV) (as : List A) (vs : List Value) : Prop :=
  vs.length = as.length ∧ ∀ m, m < as.length → RepA B w s gv (as.getD m .any) (vs.getD m Go.undef)

inductive RepAV (B : Nat → Prop) (w : World) (s : AS) (gv : GV) : AV → Value → Prop
  | one {a : A} {v : Value} (h : RepA B w s gv a v) : RepAV B w s gv (.one a) v
  | agg {as : List A} {vs : Array Value} (h : RepAs B w s gv as vs.toList) : RepAV B w s gv (.agg as) (.agg vs)
  | tup {xs : List AV} {vs : Array Value} (hn : vs.size = xs.length) (h : ∀ m, m < xs.length → RepAV B w s gv (xs.getD m .undef) (vs.getD m Go.undef)) : RepAV B w s gv (.tup xs) (.tuple vs)
  | undef {v : Value} : RepAV B w s gv .undef v

def RepB (B : Nat → Prop) (w0 w : World) (s : AS) (gv : GV) (g : Value) : Blk → Prop
  | .box cells => ∃ b vals T, g = .pointer (some ⟨b, 0, none⟩) ∧ w0.heap.size ≤ b ∧ w.heap[b]? = some (.cells vals T (0, 0)) ∧ RepAs B w s gv cells vals.toList
  | .arr E sz xs => ∃ vals, (∀ x ∈ xs, x.length = sz) ∧ w.ownsRow w0.heap.size E sz g xs.length vals ∧ RepCs w (okb B s gv) xs.flatten vals

structure SimG (B : Nat → Prop) (nt : Nat) (w0 : World) (s : AS) (a : Act) (w : World) (gv : GV) : Prop where
  above : ∀ b, w0.heap.size ≤ b → B b
  defers : a.defers = []
  size : a.tmps.size = nt
  below : Below w0.heap.size w0 w
  ver : ∀ h v, s.H h v ≠ none → v < s.N h
  live : ∀ h v blk, s.H h v = some blk → RepB B w0 w s gv (gv h v) blk
  inj : ∀ h v h' v' b, s.H h v ≠ none → s.H h' v' ≠ none → blkOf (gv h v) = some b → blkOf (gv h' v') = some b → h = h' ∧ v = v'
  tmps : ∀ i, RepAV B w s gv (s.t i) (a.tmps.getD i Go.undef)

/-- The relation of an abstract state to the model's, in a frame that was entered at world w0. -/
def Sim (B : Nat → Prop) (nt : Nat) (w0 : World) (s : AS) (a : Act) (w : World) : Prop := ∃ gv, SimG B nt w0 s a w gv

/-! ### What stays -/
/-- From (w, s, gv) to (w', s', gv'): what was represented still is. -/
structure Keep (B : Nat → Prop) (w : World) (s : AS) (gv : GV) (w' : World) (s' : AS) (gv' : GV) : Prop where
  size : w.heap.size ≤ w'.heap.size
  ok : ∀ b, b < w.heap.size → okb B s gv b → okb B s' gv' b
  heap : ∀ b, b < w.heap.size → okb B s gv b → w'.heap[b]? = w.heap[b]?
  num : ∀ h, s.N h ≤ s'.N h
  old : ∀ h v, v < s.N h → s'.H h v ≠ none → s.H h v ≠ none ∧ gv' h v = gv h v

theorem Keep.refl (B : Nat → Prop) (w : World) (s : AS) (gv : GV) : Keep B w s gv w s gv := ⟨Nat.le_refl _, fun _ _ h => h, fun _ _ _ => rfl, fun _ => Nat.le_refl _, fun _ _ _ h => ⟨h, rfl⟩⟩

theorem Keep.c {B : Nat → Prop} {w : World} {s : AS} {gv : GV} {w' : World} {s' : AS} {gv' : GV} (k : Keep B w s gv w' s' gv') {x : C} {v : Value} (h : RepC w (okb B s gv) x v) : RepC w' (okb B s' gv') x v :=
  h.mono k.ok k.size k.heap

theorem Keep.cs {B : Nat → Prop} {w : World} {s : AS} {gv : GV} {w' : World} {s' : AS} {gv' : GV} (k : Keep B w s gv w' s' gv') {x : List C} {v : List Value} (h : RepCs w (okb B s gv) x v) : RepCs w' (okb B s' gv') x v :=
  h.mono k.ok k.size k.heap

theorem Keep.a {B : Nat → Prop} {w : World} {s : AS} {gv : GV} {w' : World} {s' : AS} {gv' : GV} (k : Keep B w s gv w' s' gv') {x : A} {v : Value} (h : RepA B w s gv x v) : RepA B w' s' gv' x v := by
  induction h with
  | c h => exact .c (k.c h)
  | nil => exact .nil
  | @own h v x hv hx => exact .own (Nat.lt_of_lt_of_le hv (k.num h)) (fun hn => by
      obtain ⟨h1, h2⟩ := k.old h v hv hn
      rw [h2]; exact hx h1)
  | @ptr h v off x hv hx => exact .ptr (Nat.lt_of_lt_of_le hv (k.num h)) (fun hn => by
      obtain ⟨h1, h2⟩ := k.old h v hv hn
      rw [h2]; exact hx h1)
  | @eptr h v sz i j x hv hx => exact .eptr (Nat.lt_of_lt_of_le hv (k.num h)) (fun hn => by
      obtain ⟨h1, h2⟩ := k.old h v hv hn
      rw [h2]; exact hx h1)
  | fn hn hv ih => exact .fn hn ih
  | any => exact .any

theorem Keep.as {B : Nat → Prop} {w : World} {s : AS} {gv : GV} {w' : World} {s' : AS} {gv' : GV} (k : Keep B w s gv w' s' gv') {x : List A} {v : List Value} (h : RepAs B w s gv x v) : RepAs B w' s' gv' x v :=
  ⟨h.1, fun m hm => k.a (h.2 m hm)⟩

theorem Keep.av {B : Nat → Prop} {w : World} {s : AS} {gv : GV} {w' : World} {s' : AS} {gv' : GV} (k : Keep B w s gv w' s' gv') {x : AV} {v : Value} (h : RepAV B w s gv x v) : RepAV B w' s' gv' x v := by
  induction h with
  | one h => exact .one (k.a h)
  | agg h => exact .agg (k.as h)
  | tup hn h ih => exact .tup hn ih
  | undef => exact .undef

theorem ownsRow_same {w w' : World} {base : Nat} {e : TypeId} {size : Nat} {v : Value} {n : Nat} {xs : List Value} (h : w.ownsRow base e size v n xs)
    (hb : ∀ b, blkOf v = some b → w'.heap[b]? = w.heap[b]?) : w'.ownsRow base e size v n xs := by
  refine ⟨h.1, ?_⟩
  rcases h.2 with hn | ⟨g, cap, cur, rfl, hb', hg, rest⟩
  · exact .inl hn
  · exact .inr ⟨g, cap, cur, rfl, hb', by rw [hb g rfl]; exact hg, rest⟩

theorem Keep.b {B : Nat → Prop} {w0 w : World} {s : AS} {gv : GV} {w' : World} {s' : AS} {gv' : GV} (k : Keep B w s gv w' s' gv') {g : Value} {blk : Blk} (h : RepB B w0 w s gv g blk)
    (hg : ∀ b, blkOf g = some b → w'.heap[b]? = w.heap[b]?) : RepB B w0 w' s' gv' g blk := by
  cases blk with
  | box cells =>
    obtain ⟨b, vals, T, rfl, h1, h2, h3⟩ := h
    exact ⟨b, vals, T, rfl, h1, by rw [hg b rfl]; exact h2, k.as h3⟩
  | arr E sz xs =>
    obtain ⟨vals, h1, h2, h3⟩ := h
    exact ⟨vals, h1, ownsRow_same h2 hg, k.cs h3⟩

/-- The block of a live handle is there, and lies above what was there when the frame was entered. -/
theorem RepB.blk {B : Nat → Prop} {w0 w : World} {s : AS} {gv : GV} {g : Value} {blk : Blk} (h : RepB B w0 w s gv g blk) : ∀ b, blkOf g = some b → w0.heap.size ≤ b ∧ b < w.heap.size := by
  intro b hb
  cases blk with
  | box cells =>
    obtain ⟨b', vals, T, rfl, h1, h2, h3⟩ := h
    obtain rfl : b' = b := by simpa [blkOf] using hb
    exact ⟨h1, (Array.getElem?_eq_some_iff.1 h2).1⟩
  | arr E sz xs =>
    obtain ⟨vals, h1, h2, h3⟩ := h
    rcases h2.2 with ⟨rfl, _⟩ | ⟨g', cap, cur, rfl, hb', hg, rest⟩
    · simp [blkOf] at hb
    · obtain rfl : g' = b := by simpa [blkOf] using hb
      exact ⟨hb', (Array.getElem?_eq_some_iff.1 hg).1⟩

/-! ### Moves of the state -/
def AS.put (s : AS) (d : Option Tmp) (v : AV) : AS :=
  match d with
  | some d => { s with t := fun i => if i = d then v else s.t i }
  | none => s
/-- A new block under handle h. -/
def AS.new (s : AS) (h : Nat) (b : Blk) : AS :=
  { s with H := fun i v => if i = h ∧ v = s.N h then some b else s.H i v, N := fun i => if i = h then s.N h + 1 else s.N i }
/-- What a block of the frame's own holds now. -/
def AS.set (s : AS) (h v : Nat) (b : Blk) : AS :=
  { s with H := fun i u => if i = h ∧ u = v then some b else s.H i u }
/-- A block of which nothing more is said. -/
def AS.kill (s : AS) (h v : Nat) : AS :=
  { s with H := fun i u => if i = h ∧ u = v then none else s.H i u }

theorem Act.put_tmps (a : Act) (d : Tmp) (v : Value) : (a.put (some d) v).tmps = a.tmps.setIfInBounds d v := rfl
theorem Act.put_defers (a : Act) (d : Option Tmp) (v : Value) : (a.put d v).defers = a.defers := by cases d <;> rfl
theorem Act.put_size (a : Act) (d : Option Tmp) (v : Value) : (a.put d v).tmps.size = a.tmps.size := by cases d <;> simp [Act.put]

/-- A slot is written; the world stands as it is, or has moved in a way that keeps all. -/
theorem SimG.put {B : Nat → Prop} {nt : Nat} {w0 w : World} {s : AS} {a : Act} {gv : GV} (h : SimG B nt w0 s a w gv) (d : Option Tmp) (hd : ∀ x, d = some x → x < nt) (av : AV) (v : Value) (hv : RepAV B w s gv av v) :
    SimG B nt w0 (s.put d av) (a.put d v) w gv := by
  cases d with
  | none => exact h
  | some d =>
    have hk : Keep B w s gv w (s.put (some d) av) gv := ⟨Nat.le_refl _, fun _ _ h => h, fun _ _ _ => rfl, fun _ => Nat.le_refl _, fun _ _ _ h => ⟨h, rfl⟩⟩
    refine ⟨h.above, h.defers, by rw [Act.put_size]; exact h.size, h.below, h.ver, fun i u blk hb => hk.b (h.live i u blk hb) (fun _ _ => rfl), h.inj, fun i => ?_⟩
    rw [Act.put_tmps]
    have hlt := hd d rfl
    by_cases e : i = d
    · subst e
      have : (a.tmps.setIfInBounds i v).getD i Go.undef = v := by
        have := h.size
        simp [Array.getD, this, hlt]
      rw [this]
      simp only [AS.put, if_true]
      exact hk.av hv
    · have : (a.tmps.setIfInBounds d v).getD i Go.undef = a.tmps.getD i Go.undef := by
        simp only [Array.getD_eq_getD_getElem?, Array.getElem?_setIfInBounds]
        rw [if_neg (fun h => e h.symm)]
      rw [this]
      simp only [AS.put, if_neg e]
      exact hk.av (h.tmps i)

/-- The world moves (draws, blocks that nobody holds), nothing of the frame's own turns. -/
theorem SimG.world {B : Nat → Prop} {nt : Nat} {w0 w w' : World} {s : AS} {a : Act} {gv : GV} (h : SimG B nt w0 s a w gv) (hb : Below w.heap.size w w') : SimG B nt w0 s a w' gv := by
  have hk : Keep B w s gv w' s gv := ⟨hb.size, fun _ _ h => h, fun b hlt _ => hb.block b hlt, fun _ => Nat.le_refl _, fun _ _ _ h => ⟨h, rfl⟩⟩
  refine ⟨h.above, h.defers, h.size, h.below.trans ⟨hb.os, hb.tape, hb.output, hb.size, fun k hlt => hb.block k (Nat.lt_of_lt_of_le hlt h.below.size)⟩, h.ver, fun i u blk hx => hk.b (h.live i u blk hx) (fun b hbk => hb.block b ((h.live i u blk hx).blk b hbk).2), h.inj, fun i => hk.av (h.tmps i)⟩

/-- A handle is forgotten. -/
theorem SimG.kill {B : Nat → Prop} {nt : Nat} {w0 w : World} {s : AS} {a : Act} {gv : GV} (h : SimG B nt w0 s a w gv) (i v : Nat) :
    SimG B nt w0 (s.kill i v) a w gv ∧ Keep B w s gv w (s.kill i v) gv := by
  have hH : ∀ j u, (s.kill i v).H j u ≠ none → s.H j u ≠ none := by
    intro j u hj
    simp only [AS.kill] at hj
    split at hj
    · exact absurd rfl hj
    · exact hj
  have hk : Keep B w s gv w (s.kill i v) gv := ⟨Nat.le_refl _, fun b _ hb => ⟨hb.1, fun j u hj => hb.2 j u (hH j u hj)⟩, fun _ _ _ => rfl, fun _ => Nat.le_refl _, fun j u _ hj => ⟨hH j u hj, rfl⟩⟩
  refine ⟨⟨h.above, h.defers, h.size, h.below, fun j u hj => h.ver j u (hH j u hj), fun j u blk hj => ?_, fun j u j' u' b h1 h2 => h.inj j u j' u' b (hH j u h1) (hH j' u' h2), fun j => hk.av (h.tmps j)⟩, hk⟩
  have : s.H j u = some blk := by
    simp only [AS.kill] at hj
    split at hj
    · cases hj
    · exact hj
  exact hk.b (h.live j u blk this) (fun _ _ => rfl)

/-- A new block is taken up under a new version of handle i: its block is no other's. -/
theorem SimG.new {B : Nat → Prop} {nt : Nat} {w0 w w' : World} {s : AS} {a : Act} {gv : GV} (h : SimG B nt w0 s a w gv) (hb : Below w.heap.size w w') (i : Nat) (blk : Blk) (g : Value)
    (hfresh : ∀ b, blkOf g = some b → w.heap.size ≤ b)
    (hrep : ∀ s' gv', Keep B w s gv w' s' gv' → s' = s.new i blk → RepB B w0 w' s' gv' g blk) :
    ∃ gv', SimG B nt w0 (s.new i blk) a w' gv' ∧ Keep B w s gv w' (s.new i blk) gv' ∧ gv' i (s.N i) = g := by
  let gv' : GV := fun j u => if j = i ∧ u = s.N i then g else gv j u
  have hH : ∀ j u, (s.new i blk).H j u ≠ none → (j = i ∧ u = s.N i) ∨ (¬ (j = i ∧ u = s.N i) ∧ s.H j u ≠ none) := by
    intro j u hj
    by_cases e : j = i ∧ u = s.N i
    · exact .inl e
    · refine .inr ⟨e, ?_⟩
      simpa only [AS.new, if_neg e] using hj
  have hgi : gv' i (s.N i) = g := by simp [gv']
  have hgo : ∀ j u, ¬ (j = i ∧ u = s.N i) → gv' j u = gv j u := fun j u e => by simp only [gv', if_neg e]
  have hk : Keep B w s gv w' (s.new i blk) gv' := by
    refine ⟨hb.size, fun b hlt hok => ⟨hok.1, fun j u hj => ?_⟩, fun b hlt _ => hb.block b hlt, fun j => ?_, fun j u hu hj => ?_⟩
    · rcases hH j u hj with ⟨rfl, rfl⟩ | ⟨e, hj'⟩
      · rw [hgi]
        intro hbk
        have := hfresh b hbk
        omega
      · rw [hgo j u e]
        exact hok.2 j u hj'
    · simp only [AS.new]
      split
      · rename_i e; subst e; omega
      · exact Nat.le_refl _
    · rcases hH j u hj with ⟨rfl, rfl⟩ | ⟨e, hj'⟩
      · omega
      · exact ⟨hj', hgo j u e⟩
  refine ⟨gv', ⟨h.above, h.defers, h.size, h.below.trans ⟨hb.os, hb.tape, hb.output, hb.size, fun k hlt => hb.block k (Nat.lt_of_lt_of_le hlt h.below.size)⟩, fun j u hj => ?_, fun j u blk' hj => ?_, fun j u j' u' b h1 h2 h3 h4 => ?_, fun j => hk.av (h.tmps j)⟩, hk, hgi⟩
  · rcases hH j u hj with ⟨rfl, rfl⟩ | ⟨e, hj'⟩
    · simp [AS.new]
    · have := h.ver j u hj'
      simp only [AS.new]
      split
      · rename_i e'; subst e'; omega
      · exact this
  · by_cases e : j = i ∧ u = s.N i
    · obtain ⟨rfl, rfl⟩ := e
      have : blk = blk' := by simpa [AS.new] using hj
      subst this
      rw [hgi]
      exact hrep _ _ hk rfl
    · have hj' : s.H j u = some blk' := by simpa only [AS.new, if_neg e] using hj
      rw [hgo j u e]
      exact hk.b (h.live j u blk' hj') (fun b hbk => hb.block b ((h.live j u blk' hj').blk b hbk).2)
  · rcases hH j u h1 with ⟨rfl, rfl⟩ | ⟨e, hj'⟩
    · rcases hH j' u' h2 with ⟨rfl, rfl⟩ | ⟨e', hj''⟩
      · exact ⟨rfl, rfl⟩
      · rw [hgi] at h3
        rw [hgo j' u' e'] at h4
        have hx := hfresh b h3
        cases hb2 : s.H j' u' with
        | none => exact absurd hb2 hj''
        | some blk2 =>
          have := ((h.live j' u' blk2 hb2).blk b h4).2
          omega
    · rcases hH j' u' h2 with ⟨rfl, rfl⟩ | ⟨e', hj''⟩
      · rw [hgi] at h4
        rw [hgo j u e] at h3
        have hx := hfresh b h4
        cases hb2 : s.H j u with
        | none => exact absurd hb2 hj'
        | some blk2 =>
          have := ((h.live j u blk2 hb2).blk b h3).2
          omega
      · rw [hgo j u e] at h3
        rw [hgo j' u' e'] at h4
        exact h.inj j u j' u' b hj' hj'' h3 h4

/-- The block of a live handle is written: only that block turns. -/
theorem SimG.set {B : Nat → Prop} {nt : Nat} {w0 w w' : World} {s : AS} {a : Act} {gv : GV} (h : SimG B nt w0 s a w gv) (i v : Nat) (hl : s.H i v ≠ none) (blk : Blk)
    (hos : w'.os = w.os) (htape : w'.tape = w.tape) (hout : w'.output = w.output) (hsize : w.heap.size ≤ w'.heap.size)
    (hblk : ∀ b, b < w.heap.size → blkOf (gv i v) ≠ some b → w'.heap[b]? = w.heap[b]?)
    (hrep : Keep B w s gv w' (s.set i v blk) gv → RepB B w0 w' (s.set i v blk) gv (gv i v) blk) :
    SimG B nt w0 (s.set i v blk) a w' gv ∧ Keep B w s gv w' (s.set i v blk) gv := by
  have hH : ∀ j u, (s.set i v blk).H j u ≠ none → s.H j u ≠ none := by
    intro j u hj
    by_cases e : j = i ∧ u = v
    · obtain ⟨rfl, rfl⟩ := e; exact hl
    · simpa only [AS.set, if_neg e] using hj
  have hk : Keep B w s gv w' (s.set i v blk) gv :=
    ⟨hsize, fun b _ hb => ⟨hb.1, fun j u hj => hb.2 j u (hH j u hj)⟩, fun b hlt hok => hblk b hlt (hok.2 i v hl), fun _ => Nat.le_refl _, fun j u _ hj => ⟨hH j u hj, rfl⟩⟩
  have hlo : ∀ b, blkOf (gv i v) = some b → w0.heap.size ≤ b := by
    intro b hb
    cases e : s.H i v with
    | none => exact absurd e hl
    | some bl => exact ((h.live i v bl e).blk b hb).1
  refine ⟨⟨h.above, h.defers, h.size, h.below.trans ⟨hos, htape, hout, hsize, fun k hlt => hblk k (Nat.lt_of_lt_of_le hlt h.below.size) (fun e => by have := hlo k e; omega)⟩,
    fun j u hj => h.ver j u (hH j u hj), fun j u blk' hj => ?_, fun j u j' u' b h1 h2 => h.inj j u j' u' b (hH j u h1) (hH j' u' h2), fun j => hk.av (h.tmps j)⟩, hk⟩
  by_cases e : j = i ∧ u = v
  · obtain ⟨rfl, rfl⟩ := e
    have : blk = blk' := by simpa [AS.set] using hj
    subst this
    exact hrep hk
  · have hj' : s.H j u = some blk' := by simpa only [AS.set, if_neg e] using hj
    refine hk.b (h.live j u blk' hj') (fun b hbk => hblk b ((h.live j u blk' hj').blk b hbk).2 (fun e2 => e ?_))
    exact h.inj j u i v b (by rw [hj']; simp) hl hbk e2

end Go.AV
