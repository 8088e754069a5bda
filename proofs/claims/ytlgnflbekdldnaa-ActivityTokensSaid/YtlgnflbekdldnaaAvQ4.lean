/- How deep and how large a value is, and whether its strings are short: plain definitions. -/
import Derived.Test.YtlgnflbekdldnaaAvP
set_option linter.unusedVariables false
namespace Go.AV.VV
mutual
def dep : GVal → Int
  | .mk _ _ _ is _ => IntKind.i64.wrap (deps is 0 + 1)
def deps : List GVal → Int → Int
  | [], m => m
  | x :: r, m => deps r (if m < dep x then dep x else m)
end
mutual
def sz : GVal → Int
  | .mk _ _ _ is _ => szs is 1
def szs : List GVal → Int → Int
  | [], m => m
  | x :: r, m => szs r (IntKind.i64.wrap (m + sz x))
end
def lg (s : ByteArray) : Bool := decide (4096 < (s.size : Int))
mutual
def short : GVal → Bool
  | .mk _ _ t is ks => !lg t && !ks.any lg && shorts is
def shorts : List GVal → Bool
  | [] => true
  | x :: r => short x && shorts r
end
theorem dep_eq (v : GVal) : dep v = IntKind.i64.wrap (deps v.Items 0 + 1) := by cases v; rfl
theorem sz_eq (v : GVal) : sz v = szs v.Items 1 := by cases v; rfl
theorem shorts_all (l : List GVal) : shorts l = l.all short := by
  induction l with
  | nil => rfl
  | cons x r ih => simp [shorts, ih]
theorem short_eq (v : GVal) : short v = (!lg v.Text && !v.Keys.any lg && v.Items.all short) := by
  cases v; simp only [short, shorts_all]; rfl
theorem deps_step (l : List GVal) (k : Nat) (m : Int) (h : k < l.length) : deps (l.drop k) m = deps (l.drop (k + 1)) (if m < dep l[k] then dep l[k] else m) := by
  rw [List.drop_eq_getElem_cons h]; rfl
theorem deps_end (l : List GVal) (k : Nat) (m : Int) (h : l.length ≤ k) : deps (l.drop k) m = m := by rw [List.drop_eq_nil_of_le h]; rfl
theorem szs_step (l : List GVal) (k : Nat) (m : Int) (h : k < l.length) : szs (l.drop k) m = szs (l.drop (k + 1)) (IntKind.i64.wrap (m + sz l[k])) := by
  rw [List.drop_eq_getElem_cons h]; rfl
theorem szs_end (l : List GVal) (k : Nat) (m : Int) (h : l.length ≤ k) : szs (l.drop k) m = m := by rw [List.drop_eq_nil_of_le h]; rfl
def ascAt (l : List ByteArray) (i : Nat) : Bool := strLt (l.getD i default) (l.getD (i + 1) default)
def asc (l : List ByteArray) : Bool := (List.range (l.length - 1)).all (ascAt l)
theorem asc_t {l : List ByteArray} (h : ∀ j, j + 1 < l.length → ascAt l j = true) : asc l = true := by
  simp only [asc, List.all_eq_true, List.mem_range]; exact fun j hj => h j (by omega)
theorem asc_f {l : List ByteArray} (j : Nat) (hj : j + 1 < l.length) (h : ascAt l j = false) : asc l = false := by
  cases hn : asc l with
  | false => rfl
  | true =>
    simp only [asc, List.all_eq_true, List.mem_range] at hn
    rw [hn j (by omega)] at h; simp at h
def within (v : GVal) : Bool := decide (dep v ≤ 16) && decide (sz v ≤ 1000) && short v
end Go.AV.VV
