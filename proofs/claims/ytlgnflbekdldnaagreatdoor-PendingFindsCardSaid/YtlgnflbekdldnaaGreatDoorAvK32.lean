/- Texts AvU0. -/
import Derived.Test.YtlgnflbekdldnaaGreatDoorAvK31
set_option linter.unusedVariables false
set_option linter.unusedSimpArgs false
set_option linter.unusedSectionVars false
noncomputable section
set_option maxRecDepth 4000
namespace Go.AV.U
open Go
section
variable {P : Program} {J Y : Type} {K : J ⊕ Y → Prop}
theorem run_ret {y : Y} (h : K (.inr y)) : Runs (P := P) (.ret y) K := h
theorem run_jump {j : J} {r : List (Nat × Nat)} (h : K (.inl j)) : Runs (P := P) (.jump j r) K := h
theorem run_ite {t : Nat} {b : Bool} {c d : Cert P J Y} (h1 : b = true → Runs c K) (h2 : b = false → Runs d K) : Runs (.ite t b c d) K := by
  show if b = true then _ else _
  cases b
  · rw [if_neg (by decide)]; exact h2 rfl
  · rw [if_pos rfl]; exact h1 rfl
theorem run_t {t : Nat} {b : Bool} {c d : Cert P J Y} (hb : b = true) (h : Runs c K) : Runs (.ite t b c d) K := run_ite (fun _ => h) (fun h2 => by rw [hb] at h2; cases h2)
theorem run_f {t : Nat} {b : Bool} {c d : Cert P J Y} (hb : b = false) (h : Runs d K) : Runs (.ite t b c d) K := run_ite (fun h2 => by rw [hb] at h2; cases h2) (fun _ => h)
theorem run_elem {α : Type} {E : Enc α} {xs : List α} {i : Nat} {k : α → Cert P J Y} (h : i < xs.length) (hk : Runs (k xs[i]) K) : Runs (.elem E xs (i : Int) k) K := ⟨Int.natCast_nonneg i, h, hk⟩
theorem run_elemX {α : Type} {E : Enc α} {xs : List α} {i : Nat} {x : α} {k : α → Cert P J Y} (h : i < xs.length) (hx : xs[i] = x) (hk : Runs (k x) K) : Runs (.elem E xs (i : Int) k) K := by subst hx; exact run_elem h hk
theorem run_elemP {α : Type} {E : Enc α} {xs : List α} {i : Int} {k : α → Cert P J Y} (n : Nat) (hn : i = (n : Int)) (h : n < xs.length) (hk : Runs (k xs[n]) K) : Runs (.elem E xs i k) K := by subst hn; exact run_elem h hk
theorem run_byte {z : ByteArray} {i : Nat} {k : Cert P J Y} (h : i < z.size) (hk : Runs k K) : Runs (.byte z (i : Int) k) K := ⟨Int.natCast_nonneg i, Int.ofNat_lt.2 h, hk⟩
theorem run_len {α : Type} {E : Enc α} {xs : List α} {k : Cert P J Y} (h : Runs k K) : Runs (.len E xs k) K := h
theorem run_bld {α : Type} {E : Enc α} {xs : List α} {k : Cert P J Y} (h : Runs k K) : Runs (.bld E xs k) K := h
theorem run_app {α : Type} {E : Enc α} {b : Nat} {xs ys : List α} {k : Cert P J Y} (hl : (xs.length + ys.length) * b ≤ 140737488355328) (h : Runs k K) : Runs (.app E b xs ys k) K := ⟨hl, h⟩
theorem run_adT {a b c : Nat} {k : Cert P J Y} (h : Runs k K) : Runs (.adoptT a b c k) K := h
theorem run_nil {α : Type} {E : Enc α} {xs : List α} {k : Bool → Cert P J Y} (h1 : xs = [] → Runs (k true) K) (h2 : Runs (k false) K) : Runs (.nilt E xs k) K := by
  intro b hb
  cases b
  · exact h2
  · by_cases h : xs = []
    · exact h1 h
    · cases hb h
theorem run_call {f : FuncId} {A B : Type} {M : Mir P f A B} {x : A} {k : B → Cert P J Y} (y : B) (hr : M.R x y) (h : Runs (k y) K) : Runs (.call M x k) K := ⟨y, hr, h⟩
theorem wsucc {i n : Nat} (h : i < n) (hn : n ≤ 4611686018427387904) : IntKind.i64.wrap ((i : Int) + 1) = ((i + 1 : Nat) : Int) := by rw [w64] <;> omega
theorem dec_t {i n : Nat} (h : i < n) : decide ((i : Int) < (n : Int)) = true := decide_eq_true (Int.ofNat_lt.2 h)
theorem dec_f {n : Nat} : decide ((n : Int) < (n : Int)) = false := decide_eq_false (Int.lt_irrefl _)
theorem ev_for {cert : J → Cert P J Y} {α σ : Type} (xs : List α) (pl : Int → σ → J) (I : Nat → σ → Prop) (F : List α → σ → Y) (hb : xs.length ≤ 4611686018427387904)
    (hend : ∀ s, I xs.length s → Runs (cert (pl xs.length s)) (KOf (fun j => Ev cert j (F [] s)) (F [] s)))
    (hstep : ∀ (i : Nat) (h : i < xs.length) s, I i s → IntKind.i64.wrap ((i : Int) + 1) = ((i + 1 : Nat) : Int) → decide ((i : Int) < (xs.length : Int)) = true →
      ∀ x r, xs[i] = x → x ∈ xs → ∀ y, y = F (x :: r) s → (∀ s' {y' : Y}, I (i + 1) s' → F r s' = y' → Ev cert (pl ((i + 1 : Nat) : Int) s') y') → Runs (cert (pl i s)) (KOf (fun j => Ev cert j y) y)) :
    ∀ s, I 0 s → Ev cert (pl 0 s) (F xs s) := by
  have key : ∀ (n i : Nat), n + i = xs.length → ∀ s, I i s → Ev cert (pl i s) (F (xs.drop i) s) := by
    intro n
    induction n with
    | zero =>
      intro i hi s hs
      obtain rfl : i = xs.length := by omega
      rw [List.drop_length]
      exact Ev.intro (hend s hs)
    | succ n ih =>
      intro i hi s hs
      have h : i < xs.length := by omega
      rw [List.drop_eq_getElem_cons h]
      refine Ev.intro (hstep i h s hs (wsucc h hb) (dec_t h) _ _ rfl (List.getElem_mem h) _ rfl ?_)
      intro s' y' hs' he
      rw [← he]
      exact ih (i + 1) (by omega) s' hs'
  intro s hs
  have := key xs.length 0 (by omega) s hs
  rwa [List.drop_zero] at this
end
end Go.AV.U
namespace Go.AV
theorem GVal.lt {v x : GVal} (h : x ∈ v.Items) : SizeOf.sizeOf x < SizeOf.sizeOf v := by
  cases v with
  | mk a b c l k =>
    have h1 : SizeOf.sizeOf x < SizeOf.sizeOf l := List.sizeOf_lt_of_mem h
    simp only [GVal.mk.sizeOf_spec]
    omega
theorem GVal.okI {v : GVal} (h : v.ok) : (∀ x ∈ v.Items, x.ok) ∧ v.Items.length * 80 ≤ reachBytes := by
  cases v; obtain ⟨_, _, _, ⟨h1, h2⟩, _⟩ := h; exact ⟨(GVal.oks_iff _).1 h1, h2⟩
theorem GVal.okK {v : GVal} (h : v.ok) : (∀ x ∈ v.Keys, x.size ≤ reachBytes) ∧ v.Keys.length * 16 ≤ reachBytes := by
  cases v; obtain ⟨_, _, _, _, ⟨h1, h2⟩, _⟩ := h; exact ⟨h1, h2⟩
theorem reach16 {n : Nat} (h : n * 16 ≤ reachBytes) : n ≤ 4611686018427387904 := by have := reach_eq; omega
theorem reach80 {n : Nat} (h : n * 80 ≤ reachBytes) : n ≤ 4611686018427387904 := by have := reach_eq; omega
end Go.AV
end
