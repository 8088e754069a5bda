/- Texts Av1. -/
import Derived.Orders
import Derived.Below
import Derived.Laws.AppendOwn
import Derived.Laws.AppendOwnNone
import Derived.Laws.Rows
import Derived.Deep.MidRow
import Derived.Lib.ItoaNum
set_option linter.unusedVariables false
set_option linter.unusedSimpArgs false
set_option linter.unusedSectionVars false
noncomputable section
namespace Go.AV
open Go.RowKit
inductive C where
  | bool (b : Bool)
  | int (k : IntKind) (n : Int)
  | str (s : ByteArray)
  | sl (xs : List (List C))
  | ptr (cells : List C)
  | fn (f : FuncId) (caps : List C)
  | map (agg : Bool) (ks : List ByteArray) (vs : List (List C))
  | junk
  deriving Inhabited
def fl (xs : List (List C)) (m : Nat) : C := xs.flatten.getD m .junk
def mval (agg : Bool) (f : Nat → Value) (n : Nat) : Value := if agg then .agg (Array.ofFn (n := n) fun i => f i) else f 0
structure MapAt (o : Option Obj) (agg : Bool) (ks : List ByteArray) (vs : List (List C)) (ents : Array MapEntry) (clock : Nat) (vals : Nat → Nat → Value) : Prop where
  at_ : o = some (.map ents clock)
  size : ents.size = ks.length
  len : vs.length = ks.length
  keys : ∀ k ∈ ks, k.size ≤ maxLen
  nodup : ks.Nodup
  one : agg = false → ∀ x ∈ vs, x.length = 1
  ent : ∀ i, i < ks.length → (ents.getD i default).key = .string (ks.getD i .empty) ∧ (ents.getD i default).val = mval agg (vals i) (vs.getD i []).length
  born : ∀ i, i < ks.length → (ents.getD i default).born < clock
  bornNe : ∀ i j, i < j → j < ks.length → (ents.getD i default).born ≠ (ents.getD j default).born
inductive RepC (w : World) (ok : Nat → Prop) : C → Value → Prop
  | bool (b : Bool) : RepC w ok (.bool b) (.bool b)
  | int (k : IntKind) (n : Int) (h : k.wrap n = n) : RepC w ok (.int k n) (.int k n)
  | str (s : ByteArray) (h : s.size ≤ maxLen) : RepC w ok (.str s) (.string s)
  | nil : RepC w ok (.sl []) (.slice none 0 0)
  | empty (a : Addr) : RepC w ok (.sl []) (.slice (some a) 0 0)
  | sl (xs : List (List C)) (b off cap sz : Nat) (vals : Nat → Value) (hok : ok b) (hb : b < w.heap.size) (hle : xs.length ≤ cap) (hm : cap ≤ maxLen)
      (hsz : ∀ x ∈ xs, x.length = sz) (hc : ∀ m, m < xs.length * sz → w.cell? ⟨b, off + m, none⟩ = some (vals m))
      (hv : ∀ m, m < xs.length * sz → RepC w ok (fl xs m) (vals m)) : RepC w ok (.sl xs) (.slice (some ⟨b, off, none⟩) xs.length cap)
  | ptr (cells : List C) (b off : Nat) (vals : Nat → Value) (hok : ok b) (hb : b < w.heap.size)
      (hc : ∀ m, m < cells.length → w.cell? ⟨b, off + m, none⟩ = some (vals m))
      (hv : ∀ m, m < cells.length → RepC w ok (cells.getD m .junk) (vals m)) : RepC w ok (.ptr cells) (.pointer (some ⟨b, off, none⟩))
  | fn (f : FuncId) (caps : List C) (vs : Array Value) (hn : vs.size = caps.length)
      (hv : ∀ m, m < caps.length → RepC w ok (caps.getD m .junk) (vs.getD m undef)) : RepC w ok (.fn f caps) (.func (.func f) #[] vs)
  | nomap (agg : Bool) : RepC w ok (.map agg [] []) (.map none)
  | map (agg : Bool) (ks : List ByteArray) (vs : List (List C)) (b : Nat) (ents : Array MapEntry) (clock : Nat) (vals : Nat → Nat → Value) (hok : ok b) (hb : b < w.heap.size)
      (hm : MapAt w.heap[b]? agg ks vs ents clock vals)
      (hv : ∀ i j, i < vs.length → j < (vs.getD i []).length → RepC w ok ((vs.getD i []).getD j .junk) (vals i j)) : RepC w ok (.map agg ks vs) (.map (some b))
  | junk (v : Value) (h : v.oneCell' = true) : RepC w ok .junk v
theorem RepC.mono {w w' : World} {ok ok' : Nat → Prop} {c : C} {v : Value} (h : RepC w ok c v) (hok : ∀ b, b < w.heap.size → ok b → ok' b)
    (hs' : w.heap.size ≤ w'.heap.size) (hb : ∀ b, b < w.heap.size → ok b → w'.heap[b]? = w.heap[b]?) : RepC w' ok' c v := by
  induction h with
  | bool b => exact .bool b
  | int k n h => exact .int k n h
  | str s h => exact .str s h
  | nil => exact .nil
  | empty a => exact .empty a
  | sl xs b off cap sz vals hk hlt hle hm hsz hc hv ih =>
    exact .sl xs b off cap sz vals (hok b hlt hk) (Nat.lt_of_lt_of_le hlt hs') hle hm hsz (fun m hm' => by rw [World.cell?_of_block (w := w) (hb b hlt hk)]; exact hc m hm') ih
  | ptr cells b off vals hk hlt hc hv ih =>
    exact .ptr cells b off vals (hok b hlt hk) (Nat.lt_of_lt_of_le hlt hs') (fun m hm' => by rw [World.cell?_of_block (w := w) (hb b hlt hk)]; exact hc m hm') ih
  | fn f caps vs hn hv ih => exact .fn f caps vs hn ih
  | nomap agg => exact .nomap agg
  | map agg ks vs b ents clock vals hk hlt hm hv ih =>
    exact .map agg ks vs b ents clock vals (hok b hlt hk) (Nat.lt_of_lt_of_le hlt hs') (by rw [hb b hlt hk]; exact hm) ih
  | junk v h => exact .junk v h
def IterOn (w : World) (ok : Nat → Prop) (agg : Bool) (ks : List ByteArray) (vs : List (List C)) (done : List ByteArray) (mo : Option Nat) (since last : Nat) (seen : Array Nat) : Prop :=
  (mo = none ∧ ks = [] ∧ done = []) ∨ ∃ (b : Nat) (ents : Array MapEntry) (clock : Nat) (vals : Nat → Nat → Value), mo = some b ∧ (ok b ∧ b < w.heap.size ∧ MapAt w.heap[b]? agg ks vs ents clock vals) ∧
    (∀ i j, i < vs.length → j < (vs.getD i []).length → RepC w ok ((vs.getD i []).getD j .junk) (vals i j)) ∧ (since ≤ last ∧ last = clock) ∧ (∀ i, i < ks.length → (ents.getD i default).born < since) ∧
    (∀ i, i < ks.length → (seen.contains (ents.getD i default).born = true ↔ ks.getD i .empty ∈ done)) ∧ (∀ k l, done = k :: l → ∃ i, i < ks.length ∧ ks.getD i .empty = k ∧ seen.back? = some (ents.getD i default).born)
theorem IterOn.mono {w w' : World} {ok ok' : Nat → Prop} {agg : Bool} {ks : List ByteArray} {vs : List (List C)} {done : List ByteArray} {mo : Option Nat} {since last : Nat} {seen : Array Nat} (h : IterOn w ok agg ks vs done mo since last seen)
    (hok : ∀ b, b < w.heap.size → ok b → ok' b) (hs' : w.heap.size ≤ w'.heap.size) (hb : ∀ b, b < w.heap.size → ok b → w'.heap[b]? = w.heap[b]?) : IterOn w' ok' agg ks vs done mo since last seen := by
  rcases h with h | ⟨b, ents, clock, vals, h0, ⟨h1, h2, h3⟩, h4, h5⟩
  · exact .inl h
  · exact .inr ⟨b, ents, clock, vals, h0, ⟨hok b h2 h1, Nat.lt_of_lt_of_le h2 hs', by rw [hb b h2 h1]; exact h3⟩, fun i j hi hj => (h4 i j hi hj).mono hok hs' hb, h5⟩
theorem RepC.oneCell {w : World} {ok : Nat → Prop} {c : C} {v : Value} (h : RepC w ok c v) : v.oneCell' = true := by
  cases h <;> first | rfl | assumption
theorem getD_app_l {α : Type} (a b : List α) (d : α) (i : Nat) (h : i < a.length) : (a ++ b).getD i d = a.getD i d := by
  rw [List.getD_eq_getElem?_getD, List.getD_eq_getElem?_getD, List.getElem?_append_left h]
theorem getD_app_r {α : Type} (a b : List α) (d : α) (i : Nat) (h : a.length ≤ i) : (a ++ b).getD i d = b.getD (i - a.length) d := by
  rw [List.getD_eq_getElem?_getD, List.getD_eq_getElem?_getD, List.getElem?_append_right h]
theorem getD_lt {α : Type} (a : List α) (d : α) (i : Nat) (h : i < a.length) : a.getD i d = a[i] := by
  rw [List.getD_eq_getElem?_getD, List.getElem?_eq_getElem h]; rfl
theorem getD_mem {α : Type} (a : List α) (d : α) (i : Nat) (h : i < a.length) : a.getD i d ∈ a := by
  rw [getD_lt a d i h]; exact List.getElem_mem h
theorem flatten_length {xs : List (List C)} {sz : Nat} (h : ∀ x ∈ xs, x.length = sz) : xs.flatten.length = xs.length * sz := by
  induction xs with
  | nil => simp
  | cons x xs ih =>
    simp only [List.flatten_cons, List.length_append, List.length_cons, Nat.add_mul, Nat.one_mul]
    rw [ih (fun y hy => h y (by simp [hy])), h x (by simp)]
    omega
theorem flatten_getD {xs : List (List C)} {sz : Nat} (h : ∀ x ∈ xs, x.length = sz) (i j : Nat) (hi : i < xs.length) (hj : j < sz) :
    fl xs (i * sz + j) = (xs.getD i []).getD j .junk := by
  unfold fl
  induction xs generalizing i with
  | nil => simp at hi
  | cons x xs ih =>
    have hx : x.length = sz := h x (by simp)
    cases i with
    | zero =>
      simp only [Nat.zero_mul, Nat.zero_add, List.flatten_cons, List.getD_cons_zero]
      rw [getD_app_l _ _ _ _ (by omega)]
    | succ i =>
      simp only [List.flatten_cons, List.getD_cons_succ]
      rw [getD_app_r _ _ _ _ (by rw [hx, Nat.succ_mul]; omega)]
      rw [← ih (fun y hy => h y (by simp [hy])) i (by simpa using hi)]
      congr 1
      rw [hx, Nat.succ_mul]
      omega
theorem RepC.elem {w : World} {ok : Nat → Prop} {xs : List (List C)} {a : Option Addr} {n cap : Nat} (h : RepC w ok (.sl xs) (.slice a n cap)) :
    n = xs.length ∧ ∀ i, i < xs.length → ∃ b off, a = some ⟨b, off, none⟩ ∧ RepC w ok (.ptr (xs.getD i [])) (.pointer (some ⟨b, off + i * (xs.getD i []).length, none⟩)) := by
  cases h with
  | nil => exact ⟨rfl, fun i hi => by simp at hi⟩
  | empty a => exact ⟨rfl, fun i hi => by simp at hi⟩
  | sl _ b off _ sz vals hok hb hle hm hsz hc hv =>
    refine ⟨rfl, fun i hi => ⟨b, off, rfl, ?_⟩⟩
    have hx : (xs.getD i []).length = sz := by
      exact hsz _ (getD_mem _ _ _ hi)
    rw [hx]
    have hlt : ∀ m, m < sz → i * sz + m < xs.length * sz := fun m hm => by
      have : (i + 1) * sz ≤ xs.length * sz := Nat.mul_le_mul_right _ hi
      rw [Nat.succ_mul] at this
      omega
    refine .ptr _ b (off + i * sz) (fun m => vals (i * sz + m)) hok hb (fun m hm => ?_) (fun m hm => ?_)
    · rw [hx] at hm
      have := hc (i * sz + m) (hlt m hm)
      rwa [← Nat.add_assoc] at this
    · rw [hx] at hm
      have := hv (i * sz + m) (hlt m hm)
      rwa [flatten_getD hsz i m hi hm] at this
def RepCs (w : World) (ok : Nat → Prop) (cs : List C) (vs : List Value) : Prop :=
  vs.length = cs.length ∧ ∀ m, m < cs.length → RepC w ok (cs.getD m .junk) (vs.getD m undef)
theorem RepCs.mono {w w' : World} {ok ok' : Nat → Prop} {cs : List C} {vs : List Value} (h : RepCs w ok cs vs) (hok : ∀ b, b < w.heap.size → ok b → ok' b)
    (hs : w.heap.size ≤ w'.heap.size) (hb : ∀ b, b < w.heap.size → ok b → w'.heap[b]? = w.heap[b]?) : RepCs w' ok' cs vs :=
  ⟨h.1, fun m hm => (h.2 m hm).mono hok hs hb⟩
inductive DV where
  | one (c : C)
  | agg (cs : List C)
  deriving Inhabited
def RepDV (w : World) (ok : Nat → Prop) : DV → Value → Prop
  | .one c, v => RepC w ok c v
  | .agg cs, v => ∃ vs, v = .agg vs ∧ RepCs w ok cs vs.toList
def RepDVs (w : World) (ok : Nat → Prop) (ds : List DV) (vs : List Value) : Prop :=
  vs.length = ds.length ∧ ∀ m, m < ds.length → RepDV w ok (ds.getD m (.one .junk)) (vs.getD m undef)
theorem RepDV.mono {w w' : World} {ok ok' : Nat → Prop} {d : DV} {v : Value} (h : RepDV w ok d v) (hok : ∀ b, b < w.heap.size → ok b → ok' b)
    (hs : w.heap.size ≤ w'.heap.size) (hb : ∀ b, b < w.heap.size → ok b → w'.heap[b]? = w.heap[b]?) : RepDV w' ok' d v := by
  cases d with
  | one c => exact RepC.mono h hok hs hb
  | agg cs =>
    obtain ⟨vs, rfl, h⟩ := h
    exact ⟨vs, rfl, h.mono hok hs hb⟩
inductive R where
  | c (x : C)
  | own (E sz : Nat) (xs : List (List C))
  deriving Inhabited
inductive RV where
  | one (r : R)
  | agg (rs : List R)
  deriving Inhabited
def RV.cells : RV → List R
  | .one r => [r]
  | .agg rs => rs
def RepR (fr : Nat → Prop) (w : World) (ok : Nat → Prop) : R → Value → Prop
  | .c x, v => RepC w ok x v
  | .own E sz xs, v => ∃ vals, (∀ x ∈ xs, x.length = sz) ∧ w.ownsRow 0 E sz v xs.length vals ∧ (∀ b, v.ownBlock = some b → fr b) ∧ RepCs w ok xs.flatten vals
def ownOf : R → Value → Option Nat
  | .own _ _ _, v => v.ownBlock
  | .c _, _ => none
def RepRs (fr : Nat → Prop) (w : World) (ok : Nat → Prop) (rs : List R) (vs : List Value) : Prop :=
  vs.length = rs.length ∧
  (∀ m, m < rs.length → RepR fr w (fun b => (ok b ∨ fr b) ∧ ∀ j, j < rs.length → ownOf (rs.getD j (.c .junk)) (vs.getD j undef) ≠ some b) (rs.getD m (.c .junk)) (vs.getD m undef)) ∧
  (∀ i j b, i < rs.length → j < rs.length → ownOf (rs.getD i (.c .junk)) (vs.getD i undef) = some b → ownOf (rs.getD j (.c .junk)) (vs.getD j undef) = some b → i = j)
def RV.fits : RV → Value → List Value → Prop
  | .one _, v, cs => cs = [v]
  | .agg rs, v, cs => ∃ vs : Array Value, v = .agg vs ∧ cs = vs.toList ∧ cs.length = rs.length
def fitsAll : List RV → List Value → List Value → Prop
  | [], [], cs => cs = []
  | r :: rs, v :: vs, cs => ∃ c1 c2, r.fits v c1 ∧ fitsAll rs vs c2 ∧ cs = c1 ++ c2
  | _, _, _ => False
def packRes : List Value → Value
  | [x] => x
  | vs => .tuple vs.toArray
def RepRes (fr : Nat → Prop) (w : World) (ok : Nat → Prop) (res : List RV) (v : Value) : Prop :=
  ∃ vs cs, v = packRes vs ∧ fitsAll res vs cs ∧ RepRs fr w ok (res.flatMap RV.cells) cs
def needs : List (String × (Array Value → Prop)) :=
  [("internal/strconv.uint64pow10", fun cs => cs = (Go.Lib.pow10Tab.map fun z => Value.int .u64 z).toArray), ("strconv.ErrSyntax", fun cs => ∃ tp p, cs = #[.iface tp p]), ("strconv.ErrRange", fun cs => ∃ tp p, cs = #[.iface tp p])]
def Inv (P : Program) (w : World) (ok : Nat → Prop) : Prop :=
  ∀ nm ∈ needs, ∀ g, P.globalNamed nm.1 = some g → ok g ∧ g < w.heap.size ∧ ∃ cs, w.var? P nm.1 = some cs ∧ nm.2 cs
theorem Inv.keep {P : Program} {w w' : World} {ok ok' : Nat → Prop} (h : Inv P w ok) (hs : w.heap.size ≤ w'.heap.size) (ho : ∀ b, b < w.heap.size → ok b → ok' b) (hh : ∀ b, b < w.heap.size → ok b → w'.heap[b]? = w.heap[b]?) : Inv P w' ok' := by
  intro nm hnm g hg
  obtain ⟨h1, h2, cs, h3, h4⟩ := h nm hnm g hg
  refine ⟨ho g h2 h1, Nat.lt_of_lt_of_le h2 hs, cs, ?_, h4⟩
  rw [← h3]
  simp only [World.var?, hg, Option.bind_some, hh g h2 h1]
def Spec (P : Program) (f : FuncId) (args : List DV) (res : List RV) : Prop :=
  (∃ fn, P.funcs[f]? = some fn ∧ fn.body.isSome = true ∧ (fn.name == "runtime.NumGoroutine") = false) ∧ ∀ (w : World) (ok : Nat → Prop) (vs : List Value), RepDVs w ok args vs → Inv P w ok →
    Calls P f vs.toArray w fun e w' => ∃ v, e = .returned v ∧ Below w.heap.size w w' ∧ RepRes (fun b => w.heap.size ≤ b) w' ok res v
end Go.AV
end
