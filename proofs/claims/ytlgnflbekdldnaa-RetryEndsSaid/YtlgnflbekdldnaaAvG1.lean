/- The general move of a frame's state: blocks of the frame's own are given up, written, taken up again, all at once. -/
import Derived.Test.YtlgnflbekdldnaaAvG0
set_option linter.unusedVariables false
set_option linter.unusedSimpArgs false
namespace Go.AV
open Go.RowKit

section
variable {B : Nat → Prop} {nt : Nat} {w0 : Base} {w : World} {s : AS} {a : Act} {gv : GV}

/-- Handles of G are given up; those of M are taken up (again). -/
def AS.morph (s : AS) (G : List (Nat × Nat)) (M : Nat → Nat → Option (Blk × Value)) (N' : Nat → Nat) : AS :=
  { t := s.t, H := fun i v => match M i v with | some (b, _) => some b | none => if (i, v) ∈ G then none else s.H i v, N := N' }

theorem SimG.renewM {w' : World} (h : SimG B nt w0 s a w gv) (G : List (Nat × Nat)) (hG : ∀ p ∈ G, Ow (s.H p.1 p.2)) (M : Nat → Nat → Option (Blk × Value)) (N' : Nat → Nat)
    (hM : ∀ i v blk g, M i v = some (blk, g) → (s.N i ≤ v ∧ v < N' i) ∨ ((i, v) ∈ G ∧ g = gv i v)) (hN : ∀ i, s.N i ≤ N' i)
    (hos : w'.os = w.os) (htape : w'.tape = w.tape) (hout : w'.output = w.output) (hsize : w.heap.size ≤ w'.heap.size)
    (hblk : ∀ b, b < w.heap.size → (∀ p ∈ G, blkOf (gv p.1 p.2) ≠ some b) → w'.heap[b]? = w.heap[b]?)
    (hg : ∀ i v blk g, M i v = some (blk, g) → ∀ b, blkOf g = some b → w.heap.size ≤ b ∨ ∃ p ∈ G, blkOf (gv p.1 p.2) = some b)
    (hinj : ∀ i v i' v' blk g blk' g' b, M i v = some (blk, g) → M i' v' = some (blk', g') → blkOf g = some b → blkOf g' = some b → i = i' ∧ v = v')
    (hrep : ∀ s' gv', s' = s.morph G M N' → Keep B w s gv w' s' gv' →
      (∀ b, B b → (∀ j u, Ow (s.H j u) → (j, u) ∉ G → blkOf (gv j u) ≠ some b) → (∀ i v blk g, M i v = some (blk, g) → blkOf g ≠ some b) → okb B s' gv' b) → (∀ i v blk g, M i v = some (blk, g) → gv' i v = g) →
      ∀ i v blk g, M i v = some (blk, g) → RepB B w0 w' s' gv' g blk) :
    ∃ gv', SimG B nt w0 (s.morph G M N') a w' gv' ∧ Keep B w s gv w' (s.morph G M N') gv' ∧ (∀ i v blk g, M i v = some (blk, g) → gv' i v = g) ∧
      (∀ b, B b → (∀ j u, Ow (s.H j u) → (j, u) ∉ G → blkOf (gv j u) ≠ some b) → (∀ i v blk g, M i v = some (blk, g) → blkOf g ≠ some b) → okb B (s.morph G M N') gv' b) := by
  let gv' : GV := fun i v => match M i v with | some (_, g) => g | none => gv i v
  have hgi : ∀ i v blk g, M i v = some (blk, g) → gv' i v = g := fun i v blk g e => by simp [gv', e]
  have hgo : ∀ i v, M i v = none → gv' i v = gv i v := fun i v e => by simp [gv', e]
  have hcase : ∀ i v, (∃ blk g, M i v = some (blk, g)) ∨ M i v = none := fun i v => by
    cases e : M i v with
    | none => exact .inr rfl
    | some p => exact .inl ⟨p.1, p.2, rfl⟩
  have hHs : ∀ i v blk g, M i v = some (blk, g) → (s.morph G M N').H i v = some blk := fun i v blk g e => by simp [AS.morph, e]
  have hHn : ∀ i v, M i v = none → (s.morph G M N').H i v = if (i, v) ∈ G then none else s.H i v := fun i v e => by simp [AS.morph, e]
  have hH : ∀ i v, M i v = none → (s.morph G M N').H i v ≠ none → s.H i v ≠ none ∧ (i, v) ∉ G := by
    intro i v e hn
    rw [hHn i v e] at hn
    by_cases hm : (i, v) ∈ G
    · rw [if_pos hm] at hn; exact absurd rfl hn
    · rw [if_neg hm] at hn; exact ⟨hn, hm⟩
  have hO : ∀ i v, M i v = none → Ow ((s.morph G M N').H i v) → Ow (s.H i v) ∧ (i, v) ∉ G := by
    intro i v e hn
    rw [hHn i v e] at hn
    by_cases hm : (i, v) ∈ G
    · rw [if_pos hm] at hn; exact hn.elim
    · rw [if_neg hm] at hn; exact ⟨hn, hm⟩
  have hlive : ∀ j u, Ow (s.H j u) → ∀ b, blkOf (gv j u) = some b → w0.fr b ∧ b < w.heap.size := by
    intro j u hj b hb
    obtain ⟨bl, e, ho⟩ := hj.ex
    exact (h.live j u bl e).blk ho b hb
  have hokb : ∀ b, B b → (∀ j u, Ow (s.H j u) → (j, u) ∉ G → blkOf (gv j u) ≠ some b) → (∀ i v blk g, M i v = some (blk, g) → blkOf g ≠ some b) → okb B (s.morph G M N') gv' b := by
    intro b hB h1 h2
    refine ⟨hB, fun i v hi => ?_⟩
    rcases hcase i v with ⟨blk, g, e⟩ | e
    · rw [hgi i v blk g e]; exact h2 i v blk g e
    · rw [hgo i v e]
      obtain ⟨q1, q2⟩ := hO i v e hi
      exact h1 i v q1 q2
  have hk : Keep B w s gv w' (s.morph G M N') gv' := by
    refine ⟨hsize, fun b hlt hok => hokb b hok.1 (fun j u hj _ => hok.2 j u hj) (fun i v blk g e hb => ?_), fun b hlt hok => hblk b hlt (fun p hp => hok.2 p.1 p.2 (hG p hp)), hN, fun i v hv hn => ?_⟩
    · rcases hg i v blk g e b hb with hge | ⟨p, hp, hpb⟩
      · omega
      · exact hok.2 p.1 p.2 (hG p hp) hpb
    · rcases hcase i v with ⟨blk, g, e⟩ | e
      · rcases hM i v blk g e with ⟨h1, _⟩ | ⟨h1, h2⟩
        · omega
        · exact ⟨(hG _ h1).ne, by rw [hgi i v blk g e, h2]⟩
      · exact ⟨(hH i v e hn).1, hgo i v e⟩
  have hother : ∀ j u, Ow (s.H j u) → (j, u) ∉ G → ∀ b, blkOf (gv j u) = some b → w'.heap[b]? = w.heap[b]? ∧ ∀ i v blk g, M i v = some (blk, g) → blkOf g ≠ some b := by
    intro j u hj hm b hb
    have hnot : ∀ p ∈ G, blkOf (gv p.1 p.2) ≠ some b := by
      intro p hp hpb
      obtain ⟨e1, e2⟩ := h.inj j u p.1 p.2 b hj (hG p hp) hb hpb
      exact hm (by rw [e1, e2]; exact hp)
    refine ⟨hblk b (hlive j u hj b hb).2 hnot, fun i v blk g e hgb => ?_⟩
    rcases hg i v blk g e b hgb with hge | ⟨p, hp, hpb⟩
    · have := (hlive j u hj b hb).2; omega
    · exact hnot p hp hpb
  refine ⟨gv', ⟨h.above, h.defers, h.size, h.below.then hos htape hout hsize (fun k hlt hm => hblk k (Nat.lt_of_lt_of_le hlt h.below.size) (fun p hp hpb => by
      rcases (hlive p.1 p.2 (hG p hp) k hpb).1 with h' | h'
      · omega
      · exact hm h')), fun i v hn => ?_, fun i v blk hH' => ?_, fun i v i' v' b h1 h2 h3 h4 => ?_, fun j => hk.av (h.tmps j)⟩, hk, hgi, hokb⟩
  · show v < N' i
    rcases hcase i v with ⟨blk, g, e⟩ | e
    · rcases hM i v blk g e with ⟨_, h1⟩ | ⟨h1, _⟩
      · exact h1
      · exact Nat.lt_of_lt_of_le (h.ver i v (hG _ h1).ne) (hN i)
    · exact Nat.lt_of_lt_of_le (h.ver i v (hH i v e hn).1) (hN i)
  · rcases hcase i v with ⟨blk', g, e⟩ | e
    · have : blk = blk' := by rw [hHs i v blk' g e] at hH'; cases hH'; rfl
      subst this
      rw [hgi i v blk g e]
      exact hrep _ _ rfl hk hokb hgi i v blk g e
    · have hn : (s.morph G M N').H i v ≠ none := by rw [hH']; simp
      obtain ⟨q1, q2⟩ := hH i v e hn
      have hs3 : s.H i v = some blk := by rw [hHn i v e, if_neg q2] at hH'; exact hH'
      rw [hgo i v e]
      exact hk.b (h.live i v blk hs3) (fun ho b hbk => (hother i v (by rw [hs3]; exact ho) q2 b hbk).1)
  · rcases hcase i v with ⟨blk, g, e⟩ | e
    · rw [hgi i v blk g e] at h3
      rcases hcase i' v' with ⟨blk', g', e'⟩ | e'
      · rw [hgi i' v' blk' g' e'] at h4
        exact hinj i v i' v' blk g blk' g' b e e' h3 h4
      · rw [hgo i' v' e'] at h4
        obtain ⟨q1, q2⟩ := hO i' v' e' h2
        exact absurd h3 ((hother i' v' q1 q2 b h4).2 i v blk g e)
    · rw [hgo i v e] at h3
      obtain ⟨q1, q2⟩ := hO i v e h1
      rcases hcase i' v' with ⟨blk', g', e'⟩ | e'
      · rw [hgi i' v' blk' g' e'] at h4
        exact absurd h4 ((hother i v q1 q2 b h3).2 i' v' blk' g' e')
      · rw [hgo i' v' e'] at h4
        obtain ⟨q3, q4⟩ := hO i' v' e' h2
        exact h.inj i v i' v' b q1 q3 h3 h4

end
end Go.AV
