/- What the functions of layer 15, and those that measure values, compute. -/
import Derived.Test.YtlgnflbekdldnaaAvP
set_option linter.unusedVariables false
set_option linter.unusedSimpArgs false
namespace Go.AV
def fewKeys : List ByteArray → Int → Int
  | [], m => m
  | k :: r, m => if 0 ≤ m then fewKeys r (IntKind.i64.wrap (m - (k.size : Int))) else m
mutual
def few : GVal → Int → Int
  | .mk _ _ t is ks, m => fewItems is (fewKeys ks (IntKind.i64.wrap (IntKind.i64.wrap (m - 1) - (t.size : Int))))
def fewItems : List GVal → Int → Int
  | [], m => m
  | v :: r, m => if 0 ≤ m then fewItems r (few v m) else m
end
theorem few_eq (v : GVal) (m : Int) : few v m = fewItems v.Items (fewKeys v.Keys (IntKind.i64.wrap (IntKind.i64.wrap (m - 1) - (v.Text.size : Int)))) := by cases v; rfl
theorem fewKeys_neg (l : List ByteArray) (m : Int) (h : ¬ 0 ≤ m) : fewKeys l m = m := by cases l <;> simp [fewKeys, h]
theorem fewItems_neg (l : List GVal) (m : Int) (h : ¬ 0 ≤ m) : fewItems l m = m := by cases l <;> simp [fewItems, h]
theorem fewKeys_step (l : List ByteArray) (k : Nat) (m : Int) (h : k < l.length) (h0 : 0 ≤ m) : fewKeys (l.drop k) m = fewKeys (l.drop (k + 1)) (IntKind.i64.wrap (m - (l[k].size : Int))) := by
  rw [List.drop_eq_getElem_cons h]; simp [fewKeys, h0]
theorem fewItems_step (l : List GVal) (k : Nat) (m : Int) (h : k < l.length) (h0 : 0 ≤ m) : fewItems (l.drop k) m = fewItems (l.drop (k + 1)) (few l[k] m) := by
  rw [List.drop_eq_getElem_cons h]; simp [fewItems, h0]
theorem fewKeys_end (l : List ByteArray) (k : Nat) (m : Int) (h : l.length ≤ k) : fewKeys (l.drop k) m = m := by rw [List.drop_eq_nil_of_le h]; rfl
theorem fewItems_end (l : List GVal) (k : Nat) (m : Int) (h : l.length ≤ k) : fewItems (l.drop k) m = m := by rw [List.drop_eq_nil_of_le h]; rfl
def smallFs : List GFuture → Int → Int
  | [], m => m
  | f :: r, m => if 0 ≤ m then smallFs r (few f.Result (IntKind.i64.wrap (m + 1))) else m
theorem smallFs_neg (l : List GFuture) (m : Int) (h : ¬ 0 ≤ m) : smallFs l m = m := by cases l <;> simp [smallFs, h]
theorem smallFs_step (l : List GFuture) (k : Nat) (m : Int) (h : k < l.length) (h0 : 0 ≤ m) : smallFs (l.drop k) m = smallFs (l.drop (k + 1)) (few l[k].Result (IntKind.i64.wrap (m + 1))) := by
  rw [List.drop_eq_getElem_cons h]; simp [smallFs, h0]
theorem smallFs_end (l : List GFuture) (k : Nat) (m : Int) (h : l.length ≤ k) : smallFs (l.drop k) m = m := by rw [List.drop_eq_nil_of_le h]; rfl
namespace FU
def zero : GVal := .mk 0 0 ⟨#[]⟩ [] []
def fresh (kind seq : Int) : GFuture := ⟨0, kind, seq, zero⟩
def new (l : List GFuture) (kind seq : Int) : List GFuture × Int × Int :=
  if kind < 1 ∨ 7 < kind then ([], 0, 11) else if seq < 0 then ([], 0, 2) else if 1000 ≤ (l.length : Int) then ([], 0, 18) else (l ++ [fresh kind seq], l.length, 0)
def complete (l : List GFuture) (id st : Int) (v : GVal) : List GFuture × Int :=
  if id < 0 ∨ (l.length : Int) ≤ id then ([], 15) else if ¬ (l.getD id.toNat default).State = 0 then ([], 16)
  else (l.set id.toNat ⟨st, (l.getD id.toNat default).Kind, (l.getD id.toNat default).Seq, v⟩, 0)
def pendFrom (k : Nat) : List GFuture → List Int
  | [] => []
  | f :: r => if f.State = 0 then (k : Int) :: pendFrom (k + 1) r else pendFrom (k + 1) r
def pend (l : List GFuture) : List Int := pendFrom 0 l
def good (kind seq : Int) (f : GFuture) : Bool := decide (f.Kind = kind) && decide (f.Seq = seq)
def find (l : List GFuture) (kind seq : Int) : Int × Bool := (if ixf (good kind seq) l < 0 then 0 else ixf (good kind seq) l, decide (0 ≤ ixf (good kind seq) l))
def state (l : List GFuture) (id : Int) : Int × Bool := if id < 0 ∨ (l.length : Int) ≤ id then (0, false) else ((l.getD id.toNat default).State, true)
def withI (done : Bool) (x : Int) : List Int → List Int
  | [] => if done then [] else [x]
  | y :: r => if !done && decide (x < y) then x :: y :: withI true x r else y :: withI done x r
theorem pend_step (l : List GFuture) (k : Nat) (h : k < l.length) : pendFrom k (l.drop k) = if l[k].State = 0 then (k : Int) :: pendFrom (k + 1) (l.drop (k + 1)) else pendFrom (k + 1) (l.drop (k + 1)) := by
  rw [List.drop_eq_getElem_cons h]; rfl
theorem pend_end (l : List GFuture) (k : Nat) (h : l.length ≤ k) : pendFrom k (l.drop k) = [] := by rw [List.drop_eq_nil_of_le h]; rfl
theorem pend_len (k : Nat) (l : List GFuture) : (pendFrom k l).length ≤ l.length := by
  induction l generalizing k with
  | nil => simp [pendFrom]
  | cons f r ih =>
    have := ih (k + 1)
    simp only [pendFrom]
    split <;> simp <;> omega
theorem withI_step (l : List Int) (k : Nat) (d : Bool) (x : Int) (h : k < l.length) : withI d x (l.drop k) = if !d && decide (x < l[k]) then x :: l[k] :: withI true x (l.drop (k + 1)) else l[k] :: withI d x (l.drop (k + 1)) := by
  rw [List.drop_eq_getElem_cons h]; rfl
theorem withI_end (l : List Int) (k : Nat) (d : Bool) (x : Int) (h : l.length ≤ k) : withI d x (l.drop k) = if d then [] else [x] := by rw [List.drop_eq_nil_of_le h]; rfl
theorem pend_app (k : Nat) (l : List GFuture) (x : GFuture) (h : x.State = 0) : pendFrom k (l ++ [x]) = pendFrom k l ++ [((k + l.length : Nat) : Int)] := by
  induction l generalizing k with
  | nil => simp [pendFrom, h]
  | cons f r ih =>
    have := ih (k + 1)
    simp only [List.cons_append, pendFrom, this, List.length_cons]
    have e : k + 1 + r.length = k + (r.length + 1) := by omega
    rw [e]
    split <;> simp
theorem pend_lt (k : Nat) (l : List GFuture) : ∀ i ∈ pendFrom k l, (k : Int) ≤ i ∧ i < (k + l.length : Nat) := by
  induction l generalizing k with
  | nil => simp [pendFrom]
  | cons f r ih =>
    have := ih (k + 1)
    intro i hi
    simp only [pendFrom] at hi
    split at hi
    · rcases List.mem_cons.1 hi with rfl | hi
      · simp; omega
      · have := this i hi; simp at this ⊢; omega
    · have := this i hi; simp at this ⊢; omega
theorem withI_true (x : Int) (l : List Int) : withI true x l = l := by
  induction l with
  | nil => rfl
  | cons y r ih => simp [withI, ih]
theorem withI_last (x : Int) (l : List Int) (h : ∀ i ∈ l, i ≤ x) : withI false x l = l ++ [x] := by
  induction l with
  | nil => rfl
  | cons y r ih =>
    have h1 := h y (by simp)
    have : ¬ x < y := by omega
    simp [withI, this, ih (fun i hi => h i (by simp [hi]))]
theorem withI_first (x : Int) (l : List Int) (h : ∀ i ∈ l, x < i) : withI false x l = x :: l := by
  cases l with
  | nil => rfl
  | cons y r =>
    have h1 := h y (by simp)
    simp [withI, h1, withI_true]
theorem pend_new (l : List GFuture) (x : GFuture) (h : x.State = 0) : pend (l ++ [x]) = withI false (l.length : Int) (pend l) := by
  unfold pend
  rw [pend_app 0 l x h, withI_last]
  · simp
  · intro i hi
    have := pend_lt 0 l i hi
    simp at this; omega
theorem pend_set (k i : Nat) (l : List GFuture) (y : GFuture) (hy : ¬ y.State = 0) (hi : i < l.length) (h0 : l[i].State = 0) : withI false ((k + i : Nat) : Int) (pendFrom k (l.set i y)) = pendFrom k l := by
  induction l generalizing k i with
  | nil => simp at hi
  | cons f r ih =>
    cases i with
    | zero =>
      have h0' : f.State = 0 := h0
      simp only [List.set_cons_zero, pendFrom, if_neg hy, if_pos h0', Nat.add_zero]
      refine withI_first _ _ (fun i hi => ?_)
      have := pend_lt (k + 1) r i hi
      omega
    | succ i =>
      have := ih (k + 1) i (by simpa using hi) h0
      have e : k + 1 + i = k + (i + 1) := by omega
      rw [e] at this
      simp only [List.set_cons_succ, pendFrom]
      by_cases hf : f.State = 0
      · rw [if_pos hf, if_pos hf]
        have hlt : ¬ (((k + (i + 1) : Nat) : Int) < (k : Int)) := by omega
        simp only [withI, hlt, decide_false, Bool.and_false, Bool.false_eq_true, if_false, this]
      · rw [if_neg hf, if_neg hf, this]
theorem pend_done (l : List GFuture) (i : Nat) (y : GFuture) (hy : ¬ y.State = 0) (hi : i < l.length) (h0 : l[i].State = 0) : withI false (i : Int) (pend (l.set i y)) = pend l := by
  have := pend_set 0 i l y hy hi h0
  rwa [Nat.zero_add] at this
theorem new_cases (l : List GFuture) (kind seq : Int) : (∃ e, e ≠ 0 ∧ new l kind seq = ([], 0, e)) ∨ (1 ≤ kind ∧ kind ≤ 7 ∧ 0 ≤ seq ∧ l.length < 1000 ∧ new l kind seq = (l ++ [fresh kind seq], (l.length : Int), 0)) := by
  unfold new
  split
  · exact .inl ⟨11, by decide, rfl⟩
  · split
    · exact .inl ⟨2, by decide, rfl⟩
    · split
      · exact .inl ⟨18, by decide, rfl⟩
      · exact .inr ⟨by omega, by omega, by omega, by omega, rfl⟩
theorem complete_cases (l : List GFuture) (id st : Int) (v : GVal) : (∃ e, e ≠ 0 ∧ complete l id st v = ([], e)) ∨
    ∃ (n : Nat) (h : n < l.length), id = n ∧ l[n].State = 0 ∧ complete l id st v = (l.set n ⟨st, l[n].Kind, l[n].Seq, v⟩, 0) := by
  unfold complete
  split
  · exact .inl ⟨15, by decide, rfl⟩
  · rename_i h
    obtain ⟨n, rfl⟩ : ∃ n : Nat, id = n := ⟨id.toNat, by omega⟩
    have hlt : n < l.length := by omega
    simp only [Int.toNat_natCast, getD_lt _ _ _ hlt]
    split
    · exact .inl ⟨16, by decide, rfl⟩
    · rename_i h2
      exact .inr ⟨n, hlt, rfl, by simpa using h2, rfl⟩
end FU
theorem set_same (l : List (List C)) (k : Nat) (x : List C) (h : l.getD k [] = x) (hk : k < l.length) : l.set k x = l := by
  apply List.ext_getElem
  · simp
  · intro i h1 h2
    rw [List.getElem_set]
    split
    · rename_i e; subst e; rw [← h, getD_lt _ _ _ hk]
    · rfl
theorem set_map {X : Type} (f : X → List C) (l : List X) (k : Nat) (x : X) : (l.map f).set k (f x) = (l.set k x).map f := by
  rw [List.map_set]
theorem set_get {X : Type} (f : X → List C) (l : List X) (k : Nat) (h : k < l.length) (x : X) : ((l.set k x).map f).getD k [] = f x := by
  rw [getD_lt _ _ _ (by simpa using h)]; simp
theorem set_set {X : Type} (f : X → List C) (l : List X) (k : Nat) (x y : X) : ((l.set k x).map f).set k (f y) = (l.set k y).map f := by
  rw [set_map, List.set_set]
theorem GFuture.oks_get {l : List GFuture} (h : ∀ f ∈ l, f.ok) (k : Nat) (hk : k < l.length) : (l[k]).Result.ok := by
  have := h _ (List.getElem_mem hk)
  exact this.2.2.2.1
end Go.AV
