/- Texts AvQ2 AvQ3 AvQ5. -/
import Derived.Test.YtlgnflbekdldnaaGreatDoorAvK33
set_option linter.unusedVariables false
set_option linter.unusedSimpArgs false
set_option linter.unusedSectionVars false
noncomputable section
namespace Go.AV.RT
def letter (c : Int) : Bool := (decide (97 ≤ c) && decide (c ≤ 122)) || (decide (65 ≤ c) && decide (c ≤ 90)) || decide (c = 95)
def digit (c : Int) : Bool := decide (48 ≤ c) && decide (c ≤ 57)
def okAt (s : ByteArray) (i : Nat) : Bool := letter (byteAt s i) || (decide (¬ i = 0) && digit (byteAt s i))
def nameOk (s : ByteArray) : Bool := decide (0 < s.size) && decide (s.size ≤ 64) && (List.range s.size).all (okAt s)
theorem nameOk_f {s : ByteArray} (j : Nat) (hj : j < s.size) (h : okAt s j = false) : nameOk s = false := by
  cases hn : nameOk s with
  | false => rfl
  | true =>
    simp only [nameOk, Bool.and_eq_true, decide_eq_true_eq, List.all_eq_true, List.mem_range] at hn
    rw [hn.2 j hj] at h; simp at h
theorem nameOk_s {s : ByteArray} (h : ¬ (0 < s.size ∧ s.size ≤ 64)) : nameOk s = false := by
  cases hn : nameOk s with
  | false => rfl
  | true =>
    simp only [nameOk, Bool.and_eq_true, decide_eq_true_eq] at hn
    exact absurd hn.1 h
theorem size_zero {s : ByteArray} : s.size = 0 ↔ s = ⟨#[]⟩ := by
  constructor
  · intro h; cases s with | mk d => congr; exact Array.eq_empty_of_size_eq_zero h
  · rintro rfl; rfl
def T : Int := 1099511627776
def rng (n h : Int) : Bool := decide (0 ≤ n) && decide (n ≤ h)
def long (s : ByteArray) : Bool := decide (4096 < s.size)
def times (o : GPolicy) : List Int := [o.ToStart, o.ToClose, o.Total, o.Beat, o.First, o.Most]
def right (o : GPolicy) : Bool := (decide (o.Queue = ⟨#[]⟩) || nameOk o.Queue) && decide (o.Fatal.length ≤ 64) && (times o).all (rng · 1099511627776) && rng o.Coef 10000 && rng o.Attempts 1000 && !o.Fatal.any long
structure Bnd (o : GPolicy) : Prop where
  tot : 0 ≤ o.Total ∧ o.Total ≤ 1099511627776
  fst : 0 ≤ o.First ∧ o.First ≤ 1099511627776
  most : 0 ≤ o.Most ∧ o.Most ≤ 1099511627776
  coef : 0 ≤ o.Coef ∧ o.Coef ≤ 10000
  att : 0 ≤ o.Attempts ∧ o.Attempts ≤ 1000
def fill (o : GPolicy) : GPolicy :=
  { o with First := if o.First = 0 then 1 else o.First, Coef := if o.Coef = 0 then 200 else o.Coef, Most := if o.Most = 0 then (if 1099511627776 < 100 * (if o.First = 0 then 1 else o.First) then 1099511627776 else 100 * (if o.First = 0 then 1 else o.First)) else o.Most }
structure Fil (o : GPolicy) : Prop where
  fst : 1 ≤ o.First ∧ o.First ≤ 1099511627776
  most : 1 ≤ o.Most ∧ o.Most ≤ 1099511627776
  coef : 1 ≤ o.Coef ∧ o.Coef ≤ 10000
def mn (a b : Int) : Int := if b < a then b else a
def step (c m x : Int) : Int := mn ((x * c).tdiv 100) m
def it (c m : Int) : Nat → Int → Int
  | 0, x => x
  | n + 1, x => it c m n (step c m x)
end Go.AV.RT
end
noncomputable section
namespace Go.AV.RT
end Go.AV.RT
end
noncomputable section
namespace Go.AV.VV
mutual
def dep : GVal → Int
  | .mk _ _ _ is _ => IntKind.i64.wrap (deps is 0 + 1)
def deps : List GVal → Int → Int
  | [], m => m
  | x :: r, m => deps r (if m < dep x then dep x else m)
end
mutual
def sz : GVal → Int
  | .mk _ _ _ is _ => szs is 1
def szs : List GVal → Int → Int
  | [], m => m
  | x :: r, m => szs r (IntKind.i64.wrap (m + sz x))
end
def lg (s : ByteArray) : Bool := decide (4096 < (s.size : Int))
mutual
def short : GVal → Bool
  | .mk _ _ t is ks => !lg t && !ks.any lg && shorts is
def shorts : List GVal → Bool
  | [] => true
  | x :: r => short x && shorts r
end
theorem dep_eq (v : GVal) : dep v = IntKind.i64.wrap (deps v.Items 0 + 1) := by cases v; rfl
theorem sz_eq (v : GVal) : sz v = szs v.Items 1 := by cases v; rfl
theorem shorts_all (l : List GVal) : shorts l = l.all short := by
  induction l with
  | nil => rfl
  | cons x r ih => simp [shorts, ih]
theorem short_eq (v : GVal) : short v = (!lg v.Text && !v.Keys.any lg && v.Items.all short) := by
  cases v; simp only [short, shorts_all]; rfl
def ascAt (l : List ByteArray) (i : Nat) : Bool := strLt (l.getD i default) (l.getD (i + 1) default)
def asc (l : List ByteArray) : Bool := (List.range (l.length - 1)).all (ascAt l)
def within (v : GVal) : Bool := decide (dep v ≤ 16) && decide (sz v ≤ 1000) && short v
end Go.AV.VV
namespace Go.AV.VV
def base (b : Bool) (k n : Int) (t : ByteArray) (il : Int) (ks : List ByteArray) : Bool :=
  if k = 0 then decide (n = 0) && decide (t = ⟨#[]⟩) && decide (il = 0) && decide ((ks.length : Int) = 0)
  else if k = 1 then (decide (n = 0) || decide (n = 1)) && decide (t = ⟨#[]⟩) && decide (il = 0) && decide ((ks.length : Int) = 0)
  else if k = 2 then decide (t = ⟨#[]⟩) && decide (il = 0) && decide ((ks.length : Int) = 0)
  else if k = 6 then b && decide (0 ≤ n) && decide (t = ⟨#[]⟩) && decide (il = 0) && decide ((ks.length : Int) = 0)
  else if k = 3 then decide (n = 0) && decide (il = 0) && decide ((ks.length : Int) = 0)
  else if k = 4 then decide (n = 0) && decide (t = ⟨#[]⟩) && decide ((ks.length : Int) = 0)
  else if k = 5 then decide (n = 0) && decide (t = ⟨#[]⟩) && decide ((ks.length : Int) = il) && asc ks
  else false
mutual
def wf (b : Bool) : GVal → Bool
  | .mk k n t is ks => base b k n t (lens is) ks && wfs b is
def wfs (b : Bool) : List GVal → Bool
  | [] => true
  | x :: r => wf b x && wfs b r
def lens : List GVal → Int
  | [] => 0
  | x :: r => lens r + 1
end
mutual
def fut : GVal → Bool
  | .mk k _ _ is _ => futs is || decide (k = 6)
def futs : List GVal → Bool
  | [] => false
  | x :: r => fut x || futs r
end
theorem lens_eq (l : List GVal) : lens l = (l.length : Int) := by
  induction l with
  | nil => rfl
  | cons x r ih => simp [lens, ih]
theorem wfs_all (b : Bool) (l : List GVal) : wfs b l = l.all (wf b) := by
  induction l with
  | nil => rfl
  | cons x r ih => simp [wfs, ih]
theorem futs_any (l : List GVal) : futs l = l.any fut := by
  induction l with
  | nil => rfl
  | cons x r ih => simp [futs, ih]
theorem wf_eq (b : Bool) (v : GVal) : wf b v = (base b v.Kind v.Num v.Text (v.Items.length : Int) v.Keys && v.Items.all (wf b)) := by
  cases v; simp only [wf, wfs_all, lens_eq]; rfl
theorem fut_eq (v : GVal) : fut v = (v.Items.any fut || decide (v.Kind = 6)) := by
  cases v; simp only [fut, futs_any]; rfl
theorem wf_leaf (b : Bool) (v : GVal) (h : base b v.Kind v.Num v.Text (v.Items.length : Int) v.Keys = true → v.Items.length = 0) : wf b v = base b v.Kind v.Num v.Text (v.Items.length : Int) v.Keys := by
  rw [wf_eq]
  cases hb : base b v.Kind v.Num v.Text (v.Items.length : Int) v.Keys
  · rfl
  · rw [List.eq_nil_of_length_eq_zero (h hb)]; rfl
theorem wf_kinds (b : Bool) (v : GVal) :
    (v.Kind = 0 ∧ wf b v = (decide (v.Num = 0) && decide (v.Text = ⟨#[]⟩) && decide ((v.Items.length : Int) = 0) && decide ((v.Keys.length : Int) = 0))) ∨
    (v.Kind = 1 ∧ wf b v = ((decide (v.Num = 0) || decide (v.Num = 1)) && decide (v.Text = ⟨#[]⟩) && decide ((v.Items.length : Int) = 0) && decide ((v.Keys.length : Int) = 0))) ∨
    (v.Kind = 2 ∧ wf b v = (decide (v.Text = ⟨#[]⟩) && decide ((v.Items.length : Int) = 0) && decide ((v.Keys.length : Int) = 0))) ∨
    (v.Kind = 6 ∧ wf b v = (b && decide (0 ≤ v.Num) && decide (v.Text = ⟨#[]⟩) && decide ((v.Items.length : Int) = 0) && decide ((v.Keys.length : Int) = 0))) ∨
    (v.Kind = 3 ∧ wf b v = (decide (v.Num = 0) && decide ((v.Items.length : Int) = 0) && decide ((v.Keys.length : Int) = 0))) ∨
    (v.Kind = 4 ∧ wf b v = (decide (v.Num = 0) && decide (v.Text = ⟨#[]⟩) && decide ((v.Keys.length : Int) = 0) && v.Items.all (wf b))) ∨
    (v.Kind = 5 ∧ wf b v = (decide (v.Num = 0) && decide (v.Text = ⟨#[]⟩) && decide ((v.Keys.length : Int) = (v.Items.length : Int)) && asc v.Keys && v.Items.all (wf b))) ∨
    ((¬ v.Kind = 0 ∧ ¬ v.Kind = 1 ∧ ¬ v.Kind = 2 ∧ ¬ v.Kind = 6 ∧ ¬ v.Kind = 3 ∧ ¬ v.Kind = 4 ∧ ¬ v.Kind = 5) ∧ wf b v = false) := by
  have hw := wf_eq b v
  have hl := wf_leaf b v
  unfold base at hw hl
  by_cases h0 : v.Kind = 0
  · simp only [h0, if_true] at hl
    exact .inl ⟨h0, hl (fun h => by simp at h; simp [h])⟩
  refine .inr ?_
  by_cases h1 : v.Kind = 1
  · simp only [h1, if_true, if_false, Int.reduceEq, reduceIte] at hl
    exact .inl ⟨h1, hl (fun h => by simp at h; simp [h])⟩
  refine .inr ?_
  by_cases h2 : v.Kind = 2
  · simp only [h2, if_true, if_false, Int.reduceEq, reduceIte] at hl
    exact .inl ⟨h2, hl (fun h => by simp at h; simp [h])⟩
  refine .inr ?_
  by_cases h6 : v.Kind = 6
  · simp only [h6, if_true, if_false, Int.reduceEq, reduceIte] at hl
    exact .inl ⟨h6, hl (fun h => by simp at h; simp [h])⟩
  refine .inr ?_
  by_cases h3 : v.Kind = 3
  · simp only [h3, if_true, if_false, Int.reduceEq, reduceIte] at hl
    exact .inl ⟨h3, hl (fun h => by simp at h; simp [h])⟩
  refine .inr ?_
  by_cases h4 : v.Kind = 4
  · simp only [h4, if_true, if_false, Int.reduceEq, reduceIte] at hw
    exact .inl ⟨h4, hw⟩
  refine .inr ?_
  by_cases h5 : v.Kind = 5
  · simp only [h5, if_true, if_false, Int.reduceEq, reduceIte] at hw
    exact .inl ⟨h5, hw⟩
  refine .inr ⟨⟨h0, h1, h2, h6, h3, h4, h5⟩, ?_⟩
  simp only [h0, h1, h2, h6, h3, h4, h5, if_false] at hw
  exact hw
theorem wf_fut (v : GVal) : wf false v = (wf true v && !fut v) := by
  generalize hn : SizeOf.sizeOf v = n
  induction n using Nat.strongRecOn generalizing v with
  | _ n ih =>
    have hrec : ∀ x ∈ v.Items, wf false x = (wf true x && !fut x) := fun x hx => ih _ (hn ▸ GVal.depthLt v x hx) x rfl
    have hall : v.Items.all (wf false) = (v.Items.all (wf true) && !v.Items.any fut) := by
      clear ih hn
      generalize v.Items = l at hrec
      induction l with
      | nil => rfl
      | cons x r ihr =>
        simp only [List.all_cons, List.any_cons, ihr (fun y hy => hrec y (List.mem_cons_of_mem _ hy)), hrec x (List.mem_cons_self ..)]
        cases wf true x <;> cases fut x <;> simp
    rw [wf_eq, wf_eq true, fut_eq, hall]
    unfold base
    (repeat' split) <;> simp_all
    all_goals (cases v.Items.all (wf true) <;> simp_all)
end Go.AV.VV
end
