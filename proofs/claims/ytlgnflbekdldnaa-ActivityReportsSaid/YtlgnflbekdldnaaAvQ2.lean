/- Names, policies and backoffs: plain definitions. -/
import Derived.Test.YtlgnflbekdldnaaAvP
set_option linter.unusedVariables false
namespace Go.AV.RT
def letter (c : Int) : Bool := (decide (97 ≤ c) && decide (c ≤ 122)) || (decide (65 ≤ c) && decide (c ≤ 90)) || decide (c = 95)
def digit (c : Int) : Bool := decide (48 ≤ c) && decide (c ≤ 57)
def okAt (s : ByteArray) (i : Nat) : Bool := letter (byteAt s i) || (decide (¬ i = 0) && digit (byteAt s i))
def nameOk (s : ByteArray) : Bool := decide (0 < s.size) && decide (s.size ≤ 64) && (List.range s.size).all (okAt s)
theorem nameOk_t {s : ByteArray} (h0 : 0 < s.size) (h1 : s.size ≤ 64) (h : ∀ j, j < s.size → okAt s j = true) : nameOk s = true := by
  simp only [nameOk, Bool.and_eq_true, decide_eq_true_eq, List.all_eq_true, List.mem_range]; exact ⟨⟨h0, h1⟩, h⟩
theorem nameOk_f {s : ByteArray} (j : Nat) (hj : j < s.size) (h : okAt s j = false) : nameOk s = false := by
  cases hn : nameOk s with
  | false => rfl
  | true =>
    simp only [nameOk, Bool.and_eq_true, decide_eq_true_eq, List.all_eq_true, List.mem_range] at hn
    rw [hn.2 j hj] at h; simp at h
theorem nameOk_s {s : ByteArray} (h : ¬ (0 < s.size ∧ s.size ≤ 64)) : nameOk s = false := by
  cases hn : nameOk s with
  | false => rfl
  | true =>
    simp only [nameOk, Bool.and_eq_true, decide_eq_true_eq] at hn
    exact absurd hn.1 h
theorem size_zero {s : ByteArray} : s.size = 0 ↔ s = ⟨#[]⟩ := by
  constructor
  · intro h; cases s with | mk d => congr; exact Array.eq_empty_of_size_eq_zero h
  · rintro rfl; rfl
theorem ok_fatal {o : GPolicy} (h : o.ok) : o.Fatal.length * 16 ≤ reachBytes := by simp only [GPolicy.ok] at h; first | exact h.2.2.2.2.2.2.2.2.2.2.1 | exact h.2.2.2.2.2.2.2.2.2.1.2 | (obtain ⟨_, _, _, _, _, _, _, _, _, h⟩ := h; exact h.2.1)
def T : Int := 1099511627776
def rng (n h : Int) : Bool := decide (0 ≤ n) && decide (n ≤ h)
def long (s : ByteArray) : Bool := decide (4096 < s.size)
def times (o : GPolicy) : List Int := [o.ToStart, o.ToClose, o.Total, o.Beat, o.First, o.Most]
def right (o : GPolicy) : Bool := (decide (o.Queue = ⟨#[]⟩) || nameOk o.Queue) && decide (o.Fatal.length ≤ 64) && (times o).all (rng · 1099511627776) && rng o.Coef 10000 && rng o.Attempts 1000 && !o.Fatal.any long
theorem right_iff (o : GPolicy) : right o = true ↔ (o.Queue = ⟨#[]⟩ ∨ nameOk o.Queue = true) ∧ o.Fatal.length ≤ 64 ∧ (∀ n ∈ times o, rng n 1099511627776 = true) ∧ rng o.Coef 10000 = true ∧ rng o.Attempts 1000 = true ∧ o.Fatal.any long = false := by
  simp only [right, Bool.and_eq_true, Bool.or_eq_true, decide_eq_true_eq, List.all_eq_true, Bool.not_eq_true']
  constructor
  · rintro ⟨⟨⟨⟨⟨a, b⟩, c⟩, d⟩, e⟩, f⟩; exact ⟨a, b, c, d, e, f⟩
  · rintro ⟨a, b, c, d, e, f⟩; exact ⟨⟨⟨⟨⟨a, b⟩, c⟩, d⟩, e⟩, f⟩
theorem rng_iff (n h : Int) : rng n h = true ↔ 0 ≤ n ∧ n ≤ h := by simp [rng]
structure Bnd (o : GPolicy) : Prop where
  tot : 0 ≤ o.Total ∧ o.Total ≤ 1099511627776
  fst : 0 ≤ o.First ∧ o.First ≤ 1099511627776
  most : 0 ≤ o.Most ∧ o.Most ≤ 1099511627776
  coef : 0 ≤ o.Coef ∧ o.Coef ≤ 10000
  att : 0 ≤ o.Attempts ∧ o.Attempts ≤ 1000
theorem right_bnd {o : GPolicy} (h : right o = true) : Bnd o := by
  obtain ⟨_, _, h3, h4, h5, _⟩ := (right_iff o).1 h
  simp only [rng_iff] at h3 h4 h5
  exact ⟨h3 _ (by simp [times]), h3 _ (by simp [times]), h3 _ (by simp [times]), h4, h5⟩
/-- The policy with its zero fields filled in. -/
def fill (o : GPolicy) : GPolicy :=
  { o with First := if o.First = 0 then 1 else o.First, Coef := if o.Coef = 0 then 200 else o.Coef, Most := if o.Most = 0 then (if 1099511627776 < 100 * (if o.First = 0 then 1 else o.First) then 1099511627776 else 100 * (if o.First = 0 then 1 else o.First)) else o.Most }
def deflt (o : GPolicy) : GPolicy := if right o then fill o else o
structure Fil (o : GPolicy) : Prop where
  fst : 1 ≤ o.First ∧ o.First ≤ 1099511627776
  most : 1 ≤ o.Most ∧ o.Most ≤ 1099511627776
  coef : 1 ≤ o.Coef ∧ o.Coef ≤ 10000
theorem fill_fil {o : GPolicy} (h : Bnd o) : Fil (fill o) := by
  obtain ⟨_, h2, h3, h4, _⟩ := h
  constructor <;> simp only [fill] <;> (repeat' split) <;> omega
theorem fill_id {p : GPolicy} (h1 : 1 ≤ p.First ∧ p.First ≤ 1099511627776) (h2 : 1 ≤ p.Most ∧ p.Most ≤ 1099511627776) (h3 : 1 ≤ p.Coef ∧ p.Coef ≤ 10000) : fill p = p := by
  unfold fill
  have e1 : ¬ p.First = 0 := by omega
  have e2 : ¬ p.Coef = 0 := by omega
  have e3 : ¬ p.Most = 0 := by omega
  simp only [e1, e2, e3, if_false]
theorem fill_fill {o : GPolicy} (h : Bnd o) : fill (fill o) = fill o := by
  obtain ⟨h1, h2, h3⟩ := fill_fil h
  exact fill_id h1 h2 h3
theorem fill_right {o : GPolicy} (h : right o = true) : right (fill o) = true := by
  have hb := right_bnd h
  obtain ⟨h1, h2, h3⟩ := fill_fil hb
  obtain ⟨a, b, c, d, e, f⟩ := (right_iff o).1 h
  refine (right_iff _).2 ⟨a, b, ?_, ?_, e, f⟩
  · intro n hn
    simp only [times, List.mem_cons, List.not_mem_nil, or_false] at hn
    rcases hn with rfl | rfl | rfl | rfl | rfl | rfl
    · exact c o.ToStart (by simp [times])
    · exact c o.ToClose (by simp [times])
    · exact c o.Total (by simp [times])
    · exact c o.Beat (by simp [times])
    · exact (rng_iff _ _).2 (by omega)
    · exact (rng_iff _ _).2 (by omega)
  · exact (rng_iff _ _).2 (by omega)
theorem deflt_ok {o : GPolicy} (h : o.ok) : (deflt o).ok := by
  by_cases hr : right o = true
  · have e : deflt o = fill o := by unfold deflt; rw [if_pos hr]
    rw [e]
    obtain ⟨h1, h2, h3⟩ := fill_fil (right_bnd hr)
    obtain ⟨a, b, c, d, e, f, g, i, j, k, l⟩ := h
    exact ⟨a, b, c, d, e, (wrap_iff .i64 _).2 ⟨by show -9223372036854775808 ≤ _; omega, by show _ ≤ 9223372036854775807; omega⟩, (wrap_iff .i64 _).2 ⟨by show -9223372036854775808 ≤ _; omega, by show _ ≤ 9223372036854775807; omega⟩, (wrap_iff .i64 _).2 ⟨by show -9223372036854775808 ≤ _; omega, by show _ ≤ 9223372036854775807; omega⟩, j, k, l⟩
  · have e : deflt o = o := by unfold deflt; rw [if_neg hr]
    rw [e]; exact h
theorem deflt_deflt (o : GPolicy) : deflt (deflt o) = deflt o := by
  by_cases h : right o = true
  · have e : deflt o = fill o := by unfold deflt; rw [if_pos h]
    rw [e]; unfold deflt; rw [if_pos (fill_right h), fill_fill (right_bnd h)]
  · have e : deflt o = o := by unfold deflt; rw [if_neg h]
    rw [e]; exact e
def mn (a b : Int) : Int := if b < a then b else a
def step (c m x : Int) : Int := mn ((x * c).tdiv 100) m
def it (c m : Int) : Nat → Int → Int
  | 0, x => x
  | n + 1, x => it c m n (step c m x)
theorem it_fix {c m x : Int} (h : step c m x = x) : ∀ n, it c m n x = x
  | 0 => rfl
  | n + 1 => by rw [it, h]; exact it_fix h n
theorem it_succ (c m : Int) : ∀ n x, it c m (n + 1) x = step c m (it c m n x)
  | 0, x => rfl
  | n + 1, x => by rw [it, it_succ c m n, it]
def rounds (attempt : Int) : Nat := (mn attempt 1000 - 1).toNat
def raw (o : GPolicy) (attempt : Int) : Int := it (fill o).Coef (fill o).Most (rounds attempt) (mn (fill o).First (fill o).Most)
def delay (o : GPolicy) (attempt seed j : Int) : Int := if attempt < 1 ∨ right o = false then 0 else if 0 < seed then mn j 1099511627776 else raw o attempt
theorem rounds_wrap {attempt : Int} (h : ¬ attempt < 1) : IntKind.i64.wrap ((if (1000 : Int) < attempt then 1000 else attempt) - 1) = ((rounds attempt : Nat) : Int) := by
  unfold rounds mn
  split <;> rw [w64] <;> omega
def fatal (o : GPolicy) (f : ByteArray) : Bool := o.Fatal.any fun x => decide (f = x)
def large (o : GPolicy) : Bool := decide (50 < o.Fatal.length) || decide (500 < o.Queue.size) || o.Fatal.any fun s => decide (500 < s.size)
def again (o : GPolicy) (attempt : Int) (f : ByteArray) (spent seed j : Int) : Int × Bool :=
  if attempt < 1 ∨ 1000 ≤ attempt ∨ spent < 0 ∨ right o = false ∨ fatal o f = true then (0, false)
  else if 0 < o.Attempts ∧ o.Attempts ≤ attempt then (0, false)
  else if 0 < o.Total ∧ o.Total - spent ≤ delay o attempt seed j then (0, false)
  else (delay o attempt seed j, true)
theorem again_cases (o : GPolicy) (attempt : Int) (f : ByteArray) (spent seed j : Int) :
    (attempt < 1 ∧ again o attempt f spent seed j = (0, false)) ∨
    (¬ attempt < 1 ∧ 1000 ≤ attempt ∧ again o attempt f spent seed j = (0, false)) ∨
    (¬ attempt < 1 ∧ ¬ 1000 ≤ attempt ∧ spent < 0 ∧ again o attempt f spent seed j = (0, false)) ∨
    (¬ attempt < 1 ∧ ¬ 1000 ≤ attempt ∧ ¬ spent < 0 ∧ right o = false ∧ again o attempt f spent seed j = (0, false)) ∨
    (¬ attempt < 1 ∧ ¬ 1000 ≤ attempt ∧ ¬ spent < 0 ∧ right o = true ∧ fatal o f = true ∧ again o attempt f spent seed j = (0, false)) ∨
    (¬ attempt < 1 ∧ ¬ 1000 ≤ attempt ∧ ¬ spent < 0 ∧ right o = true ∧ fatal o f = false ∧ 0 < o.Attempts ∧ o.Attempts ≤ attempt ∧ again o attempt f spent seed j = (0, false)) ∨
    (¬ attempt < 1 ∧ ¬ 1000 ≤ attempt ∧ ¬ spent < 0 ∧ right o = true ∧ fatal o f = false ∧ (¬ 0 < o.Attempts ∨ 0 < o.Attempts ∧ ¬ o.Attempts ≤ attempt) ∧ 0 < o.Total ∧ o.Total - spent ≤ delay o attempt seed j ∧ again o attempt f spent seed j = (0, false)) ∨
    (¬ attempt < 1 ∧ ¬ 1000 ≤ attempt ∧ ¬ spent < 0 ∧ right o = true ∧ fatal o f = false ∧ (¬ 0 < o.Attempts ∨ 0 < o.Attempts ∧ ¬ o.Attempts ≤ attempt) ∧ (¬ 0 < o.Total ∨ 0 < o.Total ∧ ¬ o.Total - spent ≤ delay o attempt seed j) ∧ again o attempt f spent seed j = (delay o attempt seed j, true)) := by
  unfold again
  by_cases h1 : attempt < 1
  · exact .inl ⟨h1, by rw [if_pos (.inl h1)]⟩
  refine .inr ?_
  by_cases h2 : 1000 ≤ attempt
  · exact .inl ⟨h1, h2, by rw [if_pos (.inr (.inl h2))]⟩
  refine .inr ?_
  by_cases h3 : spent < 0
  · exact .inl ⟨h1, h2, h3, by rw [if_pos (.inr (.inr (.inl h3)))]⟩
  refine .inr ?_
  cases h4 : right o
  · exact .inl ⟨h1, h2, h3, rfl, by rw [if_pos (.inr (.inr (.inr (.inl rfl))))]⟩
  refine .inr ?_
  cases h5 : fatal o f
  case true => exact .inl ⟨h1, h2, h3, rfl, rfl, by rw [if_pos (.inr (.inr (.inr (.inr rfl))))]⟩
  refine .inr ?_
  rw [if_neg (by simp [h1, h2, h3])]
  by_cases h6 : 0 < o.Attempts ∧ o.Attempts ≤ attempt
  · exact .inl ⟨h1, h2, h3, rfl, rfl, h6.1, h6.2, by rw [if_pos h6]⟩
  refine .inr ?_
  have h6' : ¬ 0 < o.Attempts ∨ 0 < o.Attempts ∧ ¬ o.Attempts ≤ attempt := by omega
  rw [if_neg h6]
  by_cases h7 : 0 < o.Total ∧ o.Total - spent ≤ delay o attempt seed j
  · exact .inl ⟨h1, h2, h3, rfl, rfl, h6', h7.1, h7.2, by rw [if_pos h7]⟩
  refine .inr ?_
  have h7' : ¬ 0 < o.Total ∨ 0 < o.Total ∧ ¬ o.Total - spent ≤ delay o attempt seed j := by omega
  rw [if_neg h7]
  exact ⟨h1, h2, h3, rfl, rfl, h6', h7', rfl⟩
theorem pol_ext {a b : GPolicy} (h0 : a.Queue = b.Queue) (h1 : a.ToStart = b.ToStart) (h2 : a.ToClose = b.ToClose) (h3 : a.Total = b.Total) (h4 : a.Beat = b.Beat) (h5 : a.First = b.First) (h6 : a.Coef = b.Coef) (h7 : a.Most = b.Most) (h8 : a.Attempts = b.Attempts) (h9 : a.Fatal = b.Fatal) : a = b := by
  cases a; cases b; simp_all
theorem step_bnd {o : GPolicy} (h : Fil o) {x : Int} (hx : 0 ≤ x ∧ x ≤ 1099511627776) : 0 ≤ step o.Coef o.Most x ∧ step o.Coef o.Most x ≤ 1099511627776 ∧ step o.Coef o.Most x ≤ o.Most := by
  obtain ⟨h1, h2, h3⟩ := h
  have h4 : 0 ≤ x * o.Coef := Int.mul_nonneg hx.1 (by omega)
  have h5 : 0 ≤ (x * o.Coef).tdiv 100 := Int.tdiv_nonneg h4 (by omega)
  simp only [step, mn]
  split <;> omega
theorem prod_bnd {o : GPolicy} (h : Fil o) {x : Int} (hx : 0 ≤ x ∧ x ≤ 1099511627776) : 0 ≤ x * o.Coef ∧ x * o.Coef ≤ 10995116277760000 := by
  obtain ⟨h1, h2, h3⟩ := h
  refine ⟨Int.mul_nonneg hx.1 (by omega), ?_⟩
  have : x * o.Coef ≤ 1099511627776 * 10000 := Int.mul_le_mul hx.2 h3.2 (by omega) (by omega)
  omega
end Go.AV.RT
