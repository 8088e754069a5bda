/- The backoff grows; what is refused once is refused later. -/
import Derived.Test.YtlgnflbekdldnaaAvQ2
set_option linter.unusedVariables false
namespace Go.AV.RT
theorem it_bnd {p : GPolicy} (h : Fil p) : ∀ n x, (0 ≤ x ∧ x ≤ p.Most) → 0 ≤ it p.Coef p.Most n x ∧ it p.Coef p.Most n x ≤ p.Most
  | 0, x, hx => hx
  | n + 1, x, hx => by
    have hm := h.most
    have := step_bnd h (x := x) (by omega)
    exact it_bnd h n _ ⟨this.1, this.2.2⟩
theorem step_ge {p : GPolicy} (h : Fil p) (hc : 100 ≤ p.Coef) {x : Int} (hx : 0 ≤ x ∧ x ≤ p.Most) : x ≤ step p.Coef p.Most x := by
  have h1 : 100 * x ≤ x * p.Coef := by
    have : x * 100 ≤ x * p.Coef := Int.mul_le_mul_of_nonneg_left hc hx.1
    omega
  have h2 : x ≤ (x * p.Coef).tdiv 100 := by
    rw [Int.tdiv_eq_ediv_of_nonneg (by omega)]
    omega
  simp only [step, mn]
  split <;> omega
theorem it_grow {p : GPolicy} (h : Fil p) (hc : 100 ≤ p.Coef) {x : Int} (hx : 0 ≤ x ∧ x ≤ p.Most) (n : Nat) : ∀ d, it p.Coef p.Most n x ≤ it p.Coef p.Most (n + d) x
  | 0 => Int.le_refl _
  | d + 1 => by
    have h1 := it_grow h hc hx n d
    have h2 := it_succ p.Coef p.Most (n + d) x
    have h3 := step_ge h hc (it_bnd h (n + d) x hx)
    rw [← Nat.add_assoc, h2]
    omega
theorem start_bnd {p : GPolicy} (h : Fil p) : 0 ≤ mn p.First p.Most ∧ mn p.First p.Most ≤ p.Most := by
  have := h.fst; have := h.most
  unfold mn; split <;> omega
theorem delay_raw {o : GPolicy} (h : right o = true) {k : Int} (hk : 1 ≤ k) : delay o k 0 0 = raw o k := by
  unfold delay
  rw [if_neg (by rintro (h' | h'); omega; rw [h] at h'; cases h'), if_neg (by decide)]
theorem delay_most {o : GPolicy} (h : right o = true) {k : Int} (hk : 1 ≤ k) : 0 ≤ delay o k 0 0 ∧ delay o k 0 0 ≤ (fill o).Most := by
  rw [delay_raw h hk]
  have hf := fill_fil (right_bnd h)
  exact it_bnd hf _ _ (start_bnd hf)
theorem delay_grow {o : GPolicy} (h : right o = true) (hc : ¬ (¬ o.Coef = 0 ∧ o.Coef < 100)) {k l : Int} (hk : 1 ≤ k) (hl : k ≤ l) : delay o k 0 0 ≤ delay o l 0 0 := by
  rw [delay_raw h hk, delay_raw h (by omega)]
  have hf := fill_fil (right_bnd h)
  have hc' : 100 ≤ (fill o).Coef := by
    show 100 ≤ (if o.Coef = 0 then 200 else o.Coef)
    split <;> omega
  have e : rounds l = rounds k + (rounds l - rounds k) := by
    have : rounds k ≤ rounds l := by unfold rounds mn; (repeat' split) <;> omega
    omega
  unfold raw
  rw [e]
  exact it_grow hf hc' (start_bnd hf) _ _
theorem ends {o : GPolicy} (h : right o = true) (hc : ¬ (¬ o.Coef = 0 ∧ o.Coef < 100)) (f : ByteArray) {k l s t : Int} (hk : 1 ≤ k) (hl : k ≤ l) (hs : 0 ≤ s) (ht : s ≤ t) :
    (again o k f s 0 0).2 = true ∨ (again o l f t 0 0).2 = false := by
  have hg := delay_grow h hc hk hl
  rcases again_cases o l f t 0 0 with ⟨_, e⟩ | ⟨_, _, e⟩ | ⟨_, _, _, e⟩ | ⟨_, _, _, _, e⟩ | ⟨_, _, _, _, _, e⟩ | ⟨_, _, _, _, _, _, _, e⟩ | ⟨_, _, _, _, _, _, _, _, e⟩ | ⟨h1, h2, h3, h4, h5, h6, h7, e⟩
  all_goals first
    | (right; rw [e]; done)
    | skip
  left
  rcases again_cases o k f s 0 0 with ⟨g1, _⟩ | ⟨_, g2, _⟩ | ⟨_, _, g3, _⟩ | ⟨_, _, _, g4, _⟩ | ⟨_, _, _, _, g5, _⟩ | ⟨_, _, _, _, _, g6, g7, _⟩ | ⟨_, _, _, _, _, _, g8, g9, _⟩ | ⟨_, _, _, _, _, _, _, e'⟩
  · omega
  · omega
  · omega
  · rw [h] at g4; cases g4
  · rw [h5] at g5; cases g5
  · omega
  · omega
  · rw [e']
end Go.AV.RT
