/- Layer 57: what activities of a simulation do. -/
import Derived.Test.YtlgnflbekdldnaaAvQ1
set_option linter.unusedVariables false
namespace Go.AV.OU
def dflt (name : ByteArray) : GRule := ⟨name, 0, ⟨#[]⟩, 1, true, FU.zero⟩
def findFrom (name : ByteArray) : List GRule → GRule
  | [] => dflt name
  | r :: l => if r.Name = name then r else findFrom name l
theorem find_step (name : ByteArray) (l : List GRule) (k : Nat) (h : k < l.length) : findFrom name (l.drop k) = if l[k].Name = name then l[k] else findFrom name (l.drop (k + 1)) := by
  rw [List.drop_eq_getElem_cons h]; rfl
theorem find_end (name : ByteArray) (l : List GRule) (k : Nat) (h : l.length ≤ k) : findFrom name (l.drop k) = dflt name := by rw [List.drop_eq_nil_of_le h]; rfl
theorem find_mem (name : ByteArray) (l : List GRule) : findFrom name l ∈ l ∨ findFrom name l = dflt name := by
  induction l with
  | nil => exact .inr rfl
  | cons r l ih =>
    simp only [findFrom]
    split
    · exact .inl (List.mem_cons_self ..)
    · rcases ih with h | h
      · exact .inl (List.mem_cons_of_mem _ h)
      · exact .inr h
def res (r : GRule) (arg : GVal) : GVal := if r.Echo then arg else r.Result
def hang : ByteArray := ⟨#[104, 97, 110, 103]⟩
def of (r : GRule) (arg : GVal) (attempt : Int) : GOOutcome :=
  if r.Fails < 1 ∨ r.Fails < attempt then ⟨1, r.Ticks, ⟨#[]⟩, res r arg⟩ else if r.Failure = hang then ⟨3, 0, ⟨#[]⟩, FU.zero⟩ else ⟨2, r.Ticks, r.Failure, FU.zero⟩
def fin (r : GRule) (arg : GVal) : GVal × Bool := if 0 < r.Fails ∧ (1000 ≤ r.Fails ∨ r.Failure = hang) then (FU.zero, false) else (res r arg, true)
theorem dflt_ok (name : ByteArray) (h : name.size ≤ reachBytes) : (dflt name).ok := ⟨h, rfl, Nat.zero_le _, rfl, trivial, ⟨rfl, rfl, by decide, ⟨trivial, by decide⟩, ⟨by simp, by decide⟩, trivial⟩, trivial⟩
theorem find_ok (name : ByteArray) (hn : name.size ≤ reachBytes) (l : List GRule) (h : ∀ r ∈ l, r.ok) : (findFrom name l).ok := by
  rcases find_mem name l with e | e
  · exact h _ e
  · rw [e]; exact dflt_ok name hn
end Go.AV.OU
