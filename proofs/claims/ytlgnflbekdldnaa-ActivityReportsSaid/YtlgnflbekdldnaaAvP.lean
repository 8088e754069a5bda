/- Equality of typed data; small facts for walks. -/
import Derived.Test.YtlgnflbekdldnaaAv23
set_option linter.unusedVariables false
namespace Go.AV
open Go.RowKit

theorem bytes_len (b : ByteArray) : b.data.toList.length = b.size := Array.length_toList
theorem bytes_toList_loop (b : ByteArray) : ∀ (n i : Nat) (r : List UInt8), n = b.size - i → i ≤ b.size → ByteArray.toList.loop b i r = r.reverse ++ b.data.toList.drop i := by
  intro n
  induction n with
  | zero =>
    intro i r hn hi
    unfold ByteArray.toList.loop
    have : i = b.size := by omega
    rw [if_neg (by omega), this]
    have : b.data.toList.drop b.size = [] := List.drop_eq_nil_of_le (by rw [bytes_len]; exact Nat.le_refl _)
    rw [this]; simp
  | succ n ih =>
    intro i r hn hi
    unfold ByteArray.toList.loop
    have hlt : i < b.size := by omega
    rw [if_pos hlt, ih (i + 1) _ (by omega) (by omega)]
    have hlt' : i < b.data.toList.length := by rw [bytes_len]; exact hlt
    rw [List.drop_eq_getElem_cons hlt']
    have : b.get! i = b.data.toList[i] := by
      have h2 : i < b.data.size := by simpa using hlt'
      show b.data[i]! = _
      rw [getElem!_pos b.data i h2]
      simp
    rw [this]
    simp
theorem bytes_toList (b : ByteArray) : b.toList = b.data.toList := by
  unfold ByteArray.toList
  rw [bytes_toList_loop b b.size 0 [] (by omega) (by omega)]
  simp
theorem strEq_iff (a b : ByteArray) : strEq a b = decide (a = b) := by
  unfold strEq
  rw [bytes_toList, bytes_toList]
  by_cases h : a = b
  · subst h; simp
  · have : a.data.toList ≠ b.data.toList := by
      intro e
      apply h
      cases a; cases b
      congr 1
      exact Array.toList_inj.1 e
    rw [decide_eq_false h]
    exact beq_eq_false_iff_ne.2 this

mutual
def GVal.eqb : GVal → GVal → Bool
  | .mk a b c is ks, .mk a' b' c' is' ks' => a == a' && b == b' && c == c' && GVal.eqbs is is' && ks == ks'
def GVal.eqbs : List GVal → List GVal → Bool
  | [], [] => true
  | v :: vs, u :: us => GVal.eqb v u && GVal.eqbs vs us
  | _, _ => false
end
theorem beqBytes (a b : ByteArray) : (a == b) = true ↔ a = b := by
  obtain ⟨x⟩ := a
  obtain ⟨y⟩ := b
  constructor
  · intro h
    have e : x = y := by simpa using (show (x == y) = true from h)
    rw [e]
  · intro h
    cases h
    show (x == x) = true
    simp
instance : LawfulBEq ByteArray := { eq_of_beq := fun {a b} h => (beqBytes a b).1 h, rfl := fun {a} => (beqBytes a a).2 rfl }
mutual
theorem GVal.eqb_iff : ∀ a b : GVal, GVal.eqb a b = true ↔ a = b
  | .mk a b c is ks, .mk a' b' c' is' ks' => by
    have := GVal.eqbs_iff is is'
    simp only [GVal.eqb, Bool.and_eq_true, beq_iff_eq, this, GVal.mk.injEq]
    constructor
    · rintro ⟨⟨⟨⟨h1, h2⟩, h3⟩, h4⟩, h5⟩; exact ⟨h1, h2, h3, h4, h5⟩
    · rintro ⟨h1, h2, h3, h4, h5⟩; exact ⟨⟨⟨⟨h1, h2⟩, h3⟩, h4⟩, h5⟩
theorem GVal.eqbs_iff : ∀ a b : List GVal, GVal.eqbs a b = true ↔ a = b
  | [], [] => by simp [GVal.eqbs]
  | v :: vs, u :: us => by
    have h1 := GVal.eqb_iff v u
    have h2 := GVal.eqbs_iff vs us
    simp [GVal.eqbs, h1, h2]
  | [], _ :: _ => by simp [GVal.eqbs]
  | _ :: _, [] => by simp [GVal.eqbs]
end
instance : DecidableEq GVal := fun a b => decidable_of_iff _ (GVal.eqb_iff a b)
deriving instance DecidableEq for GPolicy
deriving instance DecidableEq for GAct
deriving instance DecidableEq for GFuture

/-- The nodes of a value. -/
theorem GVal.depthLt (v : GVal) (x : GVal) (h : x ∈ v.Items) : SizeOf.sizeOf x < SizeOf.sizeOf v := by
  cases v with
  | mk a b c is ks =>
    have := List.sizeOf_lt_of_mem h
    simp only [GVal.Items] at this
    simp
    omega

theorem reach_eq : reachBytes = 140737488351232 := rfl
theorem GVal.ok_items {v : GVal} (h : v.ok) : (∀ x ∈ v.Items, x.ok) ∧ v.Items.length * 80 ≤ reachBytes := by
  cases v with
  | mk a b c is ks => exact ⟨(GVal.oks_iff is).1 h.2.2.2.1.1, h.2.2.2.1.2⟩
theorem GVal.ok_keys {v : GVal} (h : v.ok) : (∀ x ∈ v.Keys, x.size ≤ reachBytes) ∧ v.Keys.length * 16 ≤ reachBytes := by
  cases v with
  | mk a b c is ks => exact h.2.2.2.2.1
theorem GVal.ok_text {v : GVal} (h : v.ok) : v.Text.size ≤ reachBytes := by
  cases v with
  | mk a b c is ks => exact h.2.2.1
theorem GVal.eta (v : GVal) : GVal.mk v.Kind v.Num v.Text v.Items v.Keys = v := by cases v; rfl
theorem GVal.eq_iff (a b : GVal) : a = b ↔ a.Kind = b.Kind ∧ a.Num = b.Num ∧ a.Text = b.Text ∧ a.Items = b.Items ∧ a.Keys = b.Keys := by
  cases a; cases b; simp [GVal.Kind, GVal.Num, GVal.Text, GVal.Items, GVal.Keys]
theorem at_map {X : Type} (f : X → List C) (l : List X) (k : Nat) (h : k < l.length) : (l.map f).getD k [] = f l[k] := by
  rw [getD_lt _ _ _ (by simpa using h)]; simp
theorem snoc_map {X : Type} (f : X → List C) (l : List X) (k : Nat) (h : k < l.length) : (l.take k).map f ++ [f l[k]] = (l.take (k + 1)).map f := by
  rw [List.take_succ_eq_append_getElem h, List.map_append]; rfl
theorem all_map {X : Type} (f : X → List C) (l : List X) (k : Nat) (h : l.length ≤ k) : (l.take k).map f = l.map f := by
  rw [List.take_of_length_le h]
/-- The place of the first that is good, or -1. -/
def ixf {X : Type} (p : X → Bool) : List X → Int
  | [] => -1
  | x :: r => if p x then 0 else if ixf p r < 0 then -1 else ixf p r + 1
theorem ixf_ge {X : Type} (p : X → Bool) (l : List X) : -1 ≤ ixf p l := by
  induction l with
  | nil => simp [ixf]
  | cons x r ih => simp only [ixf]; split <;> (try split) <;> omega
theorem ixf_found {X : Type} (p : X → Bool) (l : List X) (k : Nat) (h : k < l.length) (ha : ∀ j (h : j < l.length), j < k → p l[j] = false) (hp : p l[k] = true) : ixf p l = k := by
  induction l generalizing k with
  | nil => simp at h
  | cons x r ih =>
    cases k with
    | zero => simp only [ixf]; rw [if_pos (by simpa using hp)]; rfl
    | succ k =>
      have h0 := ha 0 (by simp) (by omega)
      have := ih k (by simpa using h) (fun j hj hjk => ha (j + 1) (by simpa using hj) (by omega)) hp
      simp only [ixf]
      rw [if_neg (by simpa using h0), this, if_neg (by omega)]
      omega
theorem ixf_none {X : Type} (p : X → Bool) (l : List X) (ha : ∀ j (h : j < l.length), p l[j] = false) : ixf p l = -1 := by
  induction l with
  | nil => rfl
  | cons x r ih =>
    have h0 := ha 0 (by simp)
    have := ih (fun j hj => ha (j + 1) (by simpa using hj))
    simp only [ixf]
    rw [if_neg (by simpa using h0), this]
    rfl
theorem ixf_any {X : Type} (p : X → Bool) (l : List X) : decide (0 ≤ ixf p l) = l.any p := by
  induction l with
  | nil => simp [ixf]
  | cons x r ih =>
    have := ixf_ge p r
    have e : r.any p = decide (0 ≤ ixf p r) := ih.symm
    rw [List.any_cons, e]
    by_cases h : p x = true
    · have : ixf p (x :: r) = 0 := by simp [ixf, h]
      simp [this, h]
    · by_cases h2 : ixf p r < 0
      · have : ixf p (x :: r) = -1 := by simp [ixf, h, h2]
        simp [this, h]; omega
      · have : ixf p (x :: r) = ixf p r + 1 := by simp [ixf, h, h2]
        simp [this, h]; omega
/-- Element by element. -/
def eqf {X : Type} (p : X → X → Bool) : List X → List X → Bool
  | [], [] => true
  | x :: xs, y :: ys => p x y && eqf p xs ys
  | _, _ => false
theorem eqf_len {X : Type} (p : X → X → Bool) (a b : List X) (h : ¬ a.length = b.length) : eqf p a b = false := by
  induction a generalizing b with
  | nil => cases b <;> simp [eqf] at h ⊢
  | cons x xs ih => cases b with
    | nil => rfl
    | cons y ys => simp only [eqf]; rw [ih ys (by simpa using h)]; simp
theorem eqf_not {X : Type} (p : X → X → Bool) (a b : List X) (k : Nat) (ha : k < a.length) (hb : k < b.length) (h : p a[k] b[k] = false) : eqf p a b = false := by
  induction a generalizing b k with
  | nil => simp at ha
  | cons x xs ih => cases b with
    | nil => rfl
    | cons y ys =>
      cases k with
      | zero => simp only [eqf]; rw [show p x y = false from h]; rfl
      | succ k => simp only [eqf]; rw [ih ys k (by simpa using ha) (by simpa using hb) h]; simp
theorem eqf_all {X : Type} (p : X → X → Bool) (a b : List X) (hl : a.length = b.length) (h : ∀ j (ha : j < a.length) (hb : j < b.length), p a[j] b[j] = true) : eqf p a b = true := by
  induction a generalizing b with
  | nil => cases b <;> simp [eqf] at hl ⊢
  | cons x xs ih => cases b with
    | nil => simp at hl
    | cons y ys =>
      simp only [eqf]
      rw [show p x y = true from h 0 (by simp) (by simp), ih ys (by simpa using hl) (fun j h1 h2 => h (j + 1) (by simpa using h1) (by simpa using h2))]
      rfl
theorem eqf_eq {X : Type} [DecidableEq X] (a b : List X) : eqf (fun x y => decide (x = y)) a b = decide (a = b) := by
  induction a generalizing b with
  | nil => cases b <;> simp [eqf]
  | cons x xs ih => cases b with
    | nil => simp [eqf]
    | cons y ys => simp [eqf, ih]
theorem nlt_of {a b : Nat} (h : b ≤ a) : ¬ a < b := Nat.not_lt.2 h
theorem GVal.setKind_self (v : GVal) : v.setKind v.Kind = v := by cases v; rfl
theorem GVal.setKind_Kind (v : GVal) (y : Int) : (v.setKind y).Kind = y := by cases v; rfl
theorem GVal.setKind_Num (v : GVal) (y : Int) : (v.setKind y).Num = v.Num := by cases v; rfl
theorem GVal.setKind_Text (v : GVal) (y : Int) : (v.setKind y).Text = v.Text := by cases v; rfl
theorem GVal.setKind_Items (v : GVal) (y : Int) : (v.setKind y).Items = v.Items := by cases v; rfl
theorem GVal.setKind_Keys (v : GVal) (y : Int) : (v.setKind y).Keys = v.Keys := by cases v; rfl
theorem GVal.setNum_self (v : GVal) : v.setNum v.Num = v := by cases v; rfl
theorem GVal.setNum_Kind (v : GVal) (y : Int) : (v.setNum y).Kind = v.Kind := by cases v; rfl
theorem GVal.setNum_Num (v : GVal) (y : Int) : (v.setNum y).Num = y := by cases v; rfl
theorem GVal.setNum_Text (v : GVal) (y : Int) : (v.setNum y).Text = v.Text := by cases v; rfl
theorem GVal.setNum_Items (v : GVal) (y : Int) : (v.setNum y).Items = v.Items := by cases v; rfl
theorem GVal.setNum_Keys (v : GVal) (y : Int) : (v.setNum y).Keys = v.Keys := by cases v; rfl
theorem GVal.setText_self (v : GVal) : v.setText v.Text = v := by cases v; rfl
theorem GVal.setText_Kind (v : GVal) (y : ByteArray) : (v.setText y).Kind = v.Kind := by cases v; rfl
theorem GVal.setText_Num (v : GVal) (y : ByteArray) : (v.setText y).Num = v.Num := by cases v; rfl
theorem GVal.setText_Text (v : GVal) (y : ByteArray) : (v.setText y).Text = y := by cases v; rfl
theorem GVal.setText_Items (v : GVal) (y : ByteArray) : (v.setText y).Items = v.Items := by cases v; rfl
theorem GVal.setText_Keys (v : GVal) (y : ByteArray) : (v.setText y).Keys = v.Keys := by cases v; rfl
theorem GVal.setItems_self (v : GVal) : v.setItems v.Items = v := by cases v; rfl
theorem GVal.setItems_Kind (v : GVal) (y : List GVal) : (v.setItems y).Kind = v.Kind := by cases v; rfl
theorem GVal.setItems_Num (v : GVal) (y : List GVal) : (v.setItems y).Num = v.Num := by cases v; rfl
theorem GVal.setItems_Text (v : GVal) (y : List GVal) : (v.setItems y).Text = v.Text := by cases v; rfl
theorem GVal.setItems_Items (v : GVal) (y : List GVal) : (v.setItems y).Items = y := by cases v; rfl
theorem GVal.setItems_Keys (v : GVal) (y : List GVal) : (v.setItems y).Keys = v.Keys := by cases v; rfl
theorem GVal.setKeys_self (v : GVal) : v.setKeys v.Keys = v := by cases v; rfl
theorem GVal.setKeys_Kind (v : GVal) (y : List ByteArray) : (v.setKeys y).Kind = v.Kind := by cases v; rfl
theorem GVal.setKeys_Num (v : GVal) (y : List ByteArray) : (v.setKeys y).Num = v.Num := by cases v; rfl
theorem GVal.setKeys_Text (v : GVal) (y : List ByteArray) : (v.setKeys y).Text = v.Text := by cases v; rfl
theorem GVal.setKeys_Items (v : GVal) (y : List ByteArray) : (v.setKeys y).Items = v.Items := by cases v; rfl
theorem GVal.setKeys_Keys (v : GVal) (y : List ByteArray) : (v.setKeys y).Keys = y := by cases v; rfl
theorem retCs_maps (s : AS) (cs ds : List C) : retCs s (cs.map .c) (ds.map .c) ↔ cs = ds := by
  induction cs generalizing ds with
  | nil => cases ds <;> simp [retCs]
  | cons x xs ih => cases ds <;> simp [retCs, retC, ih]
attribute [go_sem] strEq_iff retCs_maps GVal.setKind_self GVal.setKind_Kind GVal.setKind_Num GVal.setKind_Text GVal.setKind_Items GVal.setKind_Keys GVal.setNum_self GVal.setNum_Kind GVal.setNum_Num GVal.setNum_Text GVal.setNum_Items GVal.setNum_Keys GVal.setText_self GVal.setText_Kind GVal.setText_Num GVal.setText_Text GVal.setText_Items GVal.setText_Keys GVal.setItems_self GVal.setItems_Kind GVal.setItems_Num GVal.setItems_Text GVal.setItems_Items GVal.setItems_Keys GVal.setKeys_self GVal.setKeys_Kind GVal.setKeys_Num GVal.setKeys_Text GVal.setKeys_Items GVal.setKeys_Keys
end Go.AV
