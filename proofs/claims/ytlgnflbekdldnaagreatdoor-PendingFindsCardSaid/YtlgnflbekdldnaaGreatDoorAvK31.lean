/- Texts AvP. -/
import Derived.Test.YtlgnflbekdldnaaGreatDoorAvK30
set_option linter.unusedVariables false
set_option linter.unusedSimpArgs false
set_option linter.unusedSectionVars false
noncomputable section
namespace Go.AV
open Go.RowKit
theorem bytes_len (b : ByteArray) : b.data.toList.length = b.size := Array.length_toList
theorem bytes_toList_loop (b : ByteArray) : ∀ (n i : Nat) (r : List UInt8), n = b.size - i → i ≤ b.size → ByteArray.toList.loop b i r = r.reverse ++ b.data.toList.drop i := by
  intro n
  induction n with
  | zero =>
    intro i r hn hi
    unfold ByteArray.toList.loop
    have : i = b.size := by omega
    rw [if_neg (by omega), this]
    have : b.data.toList.drop b.size = [] := List.drop_eq_nil_of_le (by rw [bytes_len]; exact Nat.le_refl _)
    rw [this]; simp
  | succ n ih =>
    intro i r hn hi
    unfold ByteArray.toList.loop
    have hlt : i < b.size := by omega
    rw [if_pos hlt, ih (i + 1) _ (by omega) (by omega)]
    have hlt' : i < b.data.toList.length := by rw [bytes_len]; exact hlt
    rw [List.drop_eq_getElem_cons hlt']
    have : b.get! i = b.data.toList[i] := by
      have h2 : i < b.data.size := by simpa using hlt'
      show b.data[i]! = _
      rw [getElem!_pos b.data i h2]
      simp
    rw [this]
    simp
theorem bytes_toList (b : ByteArray) : b.toList = b.data.toList := by
  unfold ByteArray.toList
  rw [bytes_toList_loop b b.size 0 [] (by omega) (by omega)]
  simp
theorem strEq_iff (a b : ByteArray) : strEq a b = decide (a = b) := by
  unfold strEq
  rw [bytes_toList, bytes_toList]
  by_cases h : a = b
  · subst h; simp
  · have : a.data.toList ≠ b.data.toList := by
      intro e
      apply h
      cases a; cases b
      congr 1
      exact Array.toList_inj.1 e
    rw [decide_eq_false h]
    exact beq_eq_false_iff_ne.2 this
mutual
def GVal.eqb : GVal → GVal → Bool
  | .mk a b c is ks, .mk a' b' c' is' ks' => a == a' && b == b' && c == c' && GVal.eqbs is is' && ks == ks'
def GVal.eqbs : List GVal → List GVal → Bool
  | [], [] => true
  | v :: vs, u :: us => GVal.eqb v u && GVal.eqbs vs us
  | _, _ => false
end
theorem beqBytes (a b : ByteArray) : (a == b) = true ↔ a = b := by
  obtain ⟨x⟩ := a
  obtain ⟨y⟩ := b
  constructor
  · intro h
    have e : x = y := by simpa using (show (x == y) = true from h)
    rw [e]
  · intro h
    cases h
    show (x == x) = true
    simp
instance : LawfulBEq ByteArray := { eq_of_beq := fun {a b} h => (beqBytes a b).1 h, rfl := fun {a} => (beqBytes a a).2 rfl }
mutual
theorem GVal.eqb_iff : ∀ a b : GVal, GVal.eqb a b = true ↔ a = b
  | .mk a b c is ks, .mk a' b' c' is' ks' => by
    have := GVal.eqbs_iff is is'
    simp only [GVal.eqb, Bool.and_eq_true, beq_iff_eq, this, GVal.mk.injEq]
    constructor
    · rintro ⟨⟨⟨⟨h1, h2⟩, h3⟩, h4⟩, h5⟩; exact ⟨h1, h2, h3, h4, h5⟩
    · rintro ⟨h1, h2, h3, h4, h5⟩; exact ⟨⟨⟨⟨h1, h2⟩, h3⟩, h4⟩, h5⟩
theorem GVal.eqbs_iff : ∀ a b : List GVal, GVal.eqbs a b = true ↔ a = b
  | [], [] => by simp [GVal.eqbs]
  | v :: vs, u :: us => by
    have h1 := GVal.eqb_iff v u
    have h2 := GVal.eqbs_iff vs us
    simp [GVal.eqbs, h1, h2]
  | [], _ :: _ => by simp [GVal.eqbs]
  | _ :: _, [] => by simp [GVal.eqbs]
end
instance : DecidableEq GVal := fun a b => decidable_of_iff _ (GVal.eqb_iff a b)
deriving instance DecidableEq for GPolicy
deriving instance DecidableEq for GAct
theorem GVal.depthLt (v : GVal) (x : GVal) (h : x ∈ v.Items) : SizeOf.sizeOf x < SizeOf.sizeOf v := by
  cases v with
  | mk a b c is ks =>
    have := List.sizeOf_lt_of_mem h
    simp only [GVal.Items] at this
    simp
    omega
theorem reach_eq : reachBytes = 140737488351232 := rfl
theorem GVal.eq_iff (a b : GVal) : a = b ↔ a.Kind = b.Kind ∧ a.Num = b.Num ∧ a.Text = b.Text ∧ a.Items = b.Items ∧ a.Keys = b.Keys := by
  cases a; cases b; simp [GVal.Kind, GVal.Num, GVal.Text, GVal.Items, GVal.Keys]
theorem all_map {X : Type} (f : X → List C) (l : List X) (k : Nat) (h : l.length ≤ k) : (l.take k).map f = l.map f := by
  rw [List.take_of_length_le h]
attribute [go_sem] strEq_iff
end Go.AV
end
