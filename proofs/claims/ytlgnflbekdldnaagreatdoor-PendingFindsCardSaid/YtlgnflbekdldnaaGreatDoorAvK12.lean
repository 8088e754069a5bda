/- Texts AvG1. -/
import Derived.Test.YtlgnflbekdldnaaGreatDoorAvK11
set_option linter.unusedVariables false
set_option linter.unusedSimpArgs false
set_option linter.unusedSectionVars false
noncomputable section
namespace Go.AV
open Go.RowKit
section
variable {B : Nat → Prop} {nt : Nat} {w0 : Base} {w : World} {s : AS} {a : Act} {gv : GV} {P : Program} {K : AS → Prop}
def retC (s : AS) : A → R → Prop
  | .c x, .c y => x = y
  | .nil, .c y => y = .sl []
  | .nil, .own _ _ xs => xs = []
  | .own h v, .own E sz xs => s.H h v = some (.arr E sz xs)
  | .own h v, .c y => (∃ E sz xs, s.H h v = some (.arr E sz xs) ∧ y = .sl xs) ∨ ∃ c, s.H h v = some (.frz c) ∧ y = c
  | _, _ => False
def retCs (s : AS) : List A → List R → Prop
  | [], [] => True
  | x :: xs, r :: rs => retC s x r ∧ retCs s xs rs
  | _, _ => False
def gives : List A → List R → List (Nat × Nat)
  | .own h v :: xs, .own _ _ _ :: rs => (h, v) :: gives xs rs
  | _ :: xs, _ :: rs => gives xs rs
  | _, _ => []
def shows : List A → List R → List (Nat × Nat)
  | .own h v :: xs, .c _ :: rs => (h, v) :: shows xs rs
  | _ :: xs, _ :: rs => shows xs rs
  | _, _ => []
theorem retCs_get {xs : List A} : ∀ {rs : List R}, retCs s xs rs → xs.length = rs.length ∧ ∀ m, m < rs.length → retC s (xs.getD m .any) (rs.getD m (.c .junk)) := by
  induction xs with
  | nil => intro rs h; cases rs with
    | nil => exact ⟨rfl, fun m hm => by simp at hm⟩
    | cons => exact h.elim
  | cons x xs ih => intro rs h; cases rs with
    | nil => exact h.elim
    | cons r rs =>
      obtain ⟨e1, e2⟩ := ih h.2
      refine ⟨by simp [e1], fun m hm => ?_⟩
      cases m with
      | zero => exact h.1
      | succ m => simpa using e2 m (by simpa using hm)
theorem gives_get {xs : List A} : ∀ {rs : List R} (m : Nat) (h v E sz : Nat) (ys : List (List C)), m < rs.length → m < xs.length → xs.getD m .any = .own h v → rs.getD m (.c .junk) = .own E sz ys → (h, v) ∈ gives xs rs := by
  induction xs with
  | nil => intro rs m h v E sz ys _ hm; simp at hm
  | cons x xs ih =>
    intro rs m h v E sz ys h1 h2 h3 h4
    cases rs with
    | nil => simp at h1
    | cons r rs =>
      cases m with
      | zero =>
        simp only [List.getD_cons_zero] at h3 h4
        subst h3 h4
        simp [gives]
      | succ m =>
        have := ih m h v E sz ys (by simpa using h1) (by simpa using h2) (by simpa using h3) (by simpa using h4)
        cases x <;> cases r <;> simp [gives, this]
theorem shows_get {xs : List A} : ∀ {rs : List R} (m : Nat) (h v : Nat) (y : C), m < rs.length → m < xs.length → xs.getD m .any = .own h v → rs.getD m (.c .junk) = .c y → (h, v) ∈ shows xs rs := by
  induction xs with
  | nil => intro rs m h v y _ hm; simp at hm
  | cons x xs ih =>
    intro rs m h v y h1 h2 h3 h4
    cases rs with
    | nil => simp at h1
    | cons r rs =>
      cases m with
      | zero =>
        simp only [List.getD_cons_zero] at h3 h4
        subst h3 h4
        simp [shows]
      | succ m =>
        have := ih m h v y (by simpa using h1) (by simpa using h2) (by simpa using h3) (by simpa using h4)
        cases x <;> cases r <;> simp [shows, this]
theorem gives_inj {xs : List A} : ∀ {rs : List R}, (gives xs rs).Nodup → ∀ (m m' h v E sz E' sz' : Nat) (ys ys' : List (List C)), m < rs.length → m < xs.length → m' < rs.length → m' < xs.length → xs.getD m .any = .own h v → xs.getD m' .any = .own h v →
    rs.getD m (.c .junk) = .own E sz ys → rs.getD m' (.c .junk) = .own E' sz' ys' → m = m' := by
  induction xs with
  | nil => intro rs _ m m' h v E sz E' sz' ys ys' _ hm; simp at hm
  | cons x xs ih =>
    intro rs hnd m m' h v E sz E' sz' ys ys' h1 h2 h3 h4 h5 h6 h7 h8
    cases rs with
    | nil => simp at h1
    | cons r rs =>
      cases m with
      | zero =>
        simp only [List.getD_cons_zero] at h5 h7
        subst h5 h7
        cases m' with
        | zero => rfl
        | succ m' =>
          exfalso
          simp only [gives, List.nodup_cons] at hnd
          exact hnd.1 (gives_get m' h v E' sz' ys' (by simpa using h3) (by simpa using h4) (by simpa using h6) (by simpa using h8))
      | succ m =>
        cases m' with
        | zero =>
          exfalso
          simp only [List.getD_cons_zero] at h6 h8
          subst h6 h8
          simp only [gives, List.nodup_cons] at hnd
          exact hnd.1 (gives_get m h v E sz ys (by simpa using h1) (by simpa using h2) (by simpa using h5) (by simpa using h7))
        | succ m' =>
          have hnd' : (gives xs rs).Nodup := by
            cases x <;> cases r <;> simp only [gives, List.nodup_cons] at hnd <;> first | exact hnd | exact hnd.2
          rw [ih hnd' m m' h v E sz E' sz' ys ys' (by simpa using h1) (by simpa using h2) (by simpa using h3) (by simpa using h4) (by simpa using h5) (by simpa using h6) (by simpa using h7) (by simpa using h8)]
theorem SimG.ret {ok : Nat → Prop} (hB : ∀ b, B b → ok b ∨ w0.fr b) (hs : SimG B nt w0 s a w gv) {xs : List A} {rs : List R} {vs : List Value} (hrep : RepAs B w s gv xs vs) (hr : retCs s xs rs) (hnd : (gives xs rs).Nodup) (hsh : ∀ p ∈ shows xs rs, p ∉ gives xs rs) :
    RepRs w0.fr w ok rs vs := by
  obtain ⟨hl, hget⟩ := retCs_get hr
  have hvl : vs.length = rs.length := by rw [hrep.1, hl]
  -- an own result is a live row
  have hown : ∀ m, m < rs.length → ∀ b, ownOf (rs.getD m (.c .junk)) (vs.getD m Go.undef) = some b → ∃ h v E sz ys, xs.getD m .any = .own h v ∧ rs.getD m (.c .junk) = .own E sz ys ∧ s.H h v = some (.arr E sz ys) ∧ blkOf (gv h v) = some b := by
    intro m hm b hb
    have hg := hget m hm
    have hx := hrep.2 m (by omega)
    generalize hxe : xs.getD m .any = x at hg hx
    generalize hre : rs.getD m (.c .junk) = r at hg hb
    generalize hve : vs.getD m Go.undef = vv at hx hb
    cases r with
    | c => cases hb
    | own E sz ys =>
      cases x with
      | nil => cases hx; cases hb
      | own h v =>
        simp only [retC] at hg
        cases hx with
        | own hv hxx =>
          have := hxx (by rw [hg]; simp)
          rw [this] at hb
          exact ⟨h, v, E, sz, ys, rfl, rfl, hg, blkOf_ownBlock hb⟩
      | _ => simp [retC] at hg
  have hokmono : ∀ b, okb B s gv b → (ok b ∨ w0.fr b) ∧ ∀ j, j < rs.length → ownOf (rs.getD j (.c .junk)) (vs.getD j Go.undef) ≠ some b := by
    intro b hb
    refine ⟨hB b hb.1, fun j hj e => ?_⟩
    obtain ⟨h, v, E, sz, ys, _, _, hH, hbk⟩ := hown j hj b e
    exact hb.2 h v (by rw [hH]; trivial) hbk
  refine ⟨hvl, fun m hm => ?_, fun i j b hi hj hbi hbj => ?_⟩
  · have hg := hget m hm
    have hx := hrep.2 m (by omega)
    generalize hxe : xs.getD m .any = x at hg hx
    generalize hre : rs.getD m (.c .junk) = r at hg
    cases x with
    | c x =>
      cases r with
      | c y =>
        simp only [retC] at hg
        subst hg
        cases hx with | c hx => exact hx.mono (fun b _ hb => hokmono b hb) (Nat.le_refl _) (fun _ _ _ => rfl)
      | own => simp [retC] at hg
    | nil =>
      generalize hve : vs.getD m Go.undef = v at hx
      cases hx
      cases r with
      | c y => simp only [retC] at hg; subst hg; exact .nil
      | own E sz ys =>
        simp only [retC] at hg
        subst hg
        exact ⟨[], by simp, World.ownsRow_nil _ _ _ _, by simp [Value.ownBlock], rfl, by simp⟩
    | own h v =>
      generalize hve : vs.getD m Go.undef = u at hx
      cases hx with
      | own hv hxx =>
        cases r with
        | own E sz ys =>
          simp only [retC] at hg
          have := hxx (by rw [hg]; simp)
          subst this
          obtain ⟨vals, h1, h2, h4, h3⟩ := hs.live h v _ hg
          exact ⟨vals, h1, h2, fun b hb => h4 b (blkOf_ownBlock hb), h3.mono (fun b _ hb => hokmono b hb) (Nat.le_refl _) (fun _ _ _ => rfl)⟩
        | c y =>
          simp only [retC] at hg
          rcases hg with ⟨E, sz, ys, hH, rfl⟩ | ⟨ys, hH, rfl⟩
          rotate_left
          · have := hxx (by rw [hH]; simp)
            subst this
            exact RepC.mono (hs.live h v _ hH) (fun b _ hb => hokmono b hb) (Nat.le_refl _) (fun _ _ _ => rfl)
          have := hxx (by rw [hH]; simp)
          subst this
          obtain ⟨vals, h1, h2, h4, h3⟩ := hs.live h v _ hH
          refine RepCs.sl h1 h2 (h3.mono (fun b _ hb => hokmono b hb) (Nat.le_refl _) (fun _ _ _ => rfl)) (fun b hb => ⟨.inr (h4 b hb), fun j hj e => ?_⟩)
          obtain ⟨h', v', E', sz', ys', hxe', hre', hH', hbk'⟩ := hown j hj b e
          obtain ⟨rfl, rfl⟩ := hs.inj h v h' v' b (by rw [hH]; trivial) (by rw [hH']; trivial) hb hbk'
          exact hsh _ (shows_get m h v _ hm (by omega) hxe hre) (gives_get j h v E' sz' ys' hj (by omega) hxe' hre')
    | _ => simp [retC] at hg
  · obtain ⟨h, v, E, sz, ys, e1, e2, e3, e4⟩ := hown i hi b hbi
    obtain ⟨h', v', E', sz', ys', e1', e2', e3', e4'⟩ := hown j hj b hbj
    obtain ⟨rfl, rfl⟩ := hs.inj h v h' v' b (by rw [e3]; trivial) (by rw [e3']; trivial) e4 e4'
    exact gives_inj hnd i j h v E sz E' sz' ys ys' hi (by omega) hj (by omega) e1 e1' e2 e2'
end
end Go.AV
namespace Go.AV
open Go.RowKit
section
variable {B : Nat → Prop} {nt : Nat} {w0 : Base} {w : World} {s : AS} {a : Act} {gv : GV}
def AS.morph (s : AS) (G : List (Nat × Nat)) (M : Nat → Nat → Option (Blk × Value)) (N' : Nat → Nat) : AS :=
  { t := s.t, H := fun i v => match M i v with | some (b, _) => some b | none => if (i, v) ∈ G then none else s.H i v, N := N' }
theorem SimG.renewM {w' : World} (h : SimG B nt w0 s a w gv) (G : List (Nat × Nat)) (hG : ∀ p ∈ G, Ow (s.H p.1 p.2)) (M : Nat → Nat → Option (Blk × Value)) (N' : Nat → Nat)
    (hM : ∀ i v blk g, M i v = some (blk, g) → (s.N i ≤ v ∧ v < N' i) ∨ ((i, v) ∈ G ∧ g = gv i v)) (hN : ∀ i, s.N i ≤ N' i)
    (hos : w'.os = w.os) (htape : w'.tape = w.tape) (hout : w'.output = w.output) (hsize : w.heap.size ≤ w'.heap.size)
    (hblk : ∀ b, b < w.heap.size → (∀ p ∈ G, blkOf (gv p.1 p.2) ≠ some b) → w'.heap[b]? = w.heap[b]?)
    (hg : ∀ i v blk g, M i v = some (blk, g) → ∀ b, blkOf g = some b → w.heap.size ≤ b ∨ ∃ p ∈ G, blkOf (gv p.1 p.2) = some b)
    (hinj : ∀ i v i' v' blk g blk' g' b, M i v = some (blk, g) → M i' v' = some (blk', g') → blkOf g = some b → blkOf g' = some b → i = i' ∧ v = v')
    (hrep : ∀ s' gv', s' = s.morph G M N' → Keep B w s gv w' s' gv' →
      (∀ b, B b → (∀ j u, Ow (s.H j u) → (j, u) ∉ G → blkOf (gv j u) ≠ some b) → (∀ i v blk g, M i v = some (blk, g) → blkOf g ≠ some b) → okb B s' gv' b) → (∀ i v blk g, M i v = some (blk, g) → gv' i v = g) →
      ∀ i v blk g, M i v = some (blk, g) → RepB B w0 w' s' gv' g blk) :
    ∃ gv', SimG B nt w0 (s.morph G M N') a w' gv' ∧ Keep B w s gv w' (s.morph G M N') gv' ∧ (∀ i v blk g, M i v = some (blk, g) → gv' i v = g) ∧
      (∀ b, B b → (∀ j u, Ow (s.H j u) → (j, u) ∉ G → blkOf (gv j u) ≠ some b) → (∀ i v blk g, M i v = some (blk, g) → blkOf g ≠ some b) → okb B (s.morph G M N') gv' b) := by
  let gv' : GV := fun i v => match M i v with | some (_, g) => g | none => gv i v
  have hgi : ∀ i v blk g, M i v = some (blk, g) → gv' i v = g := fun i v blk g e => by simp [gv', e]
  have hgo : ∀ i v, M i v = none → gv' i v = gv i v := fun i v e => by simp [gv', e]
  have hcase : ∀ i v, (∃ blk g, M i v = some (blk, g)) ∨ M i v = none := fun i v => by
    cases e : M i v with
    | none => exact .inr rfl
    | some p => exact .inl ⟨p.1, p.2, rfl⟩
  have hHs : ∀ i v blk g, M i v = some (blk, g) → (s.morph G M N').H i v = some blk := fun i v blk g e => by simp [AS.morph, e]
  have hHn : ∀ i v, M i v = none → (s.morph G M N').H i v = if (i, v) ∈ G then none else s.H i v := fun i v e => by simp [AS.morph, e]
  have hH : ∀ i v, M i v = none → (s.morph G M N').H i v ≠ none → s.H i v ≠ none ∧ (i, v) ∉ G := by
    intro i v e hn
    rw [hHn i v e] at hn
    by_cases hm : (i, v) ∈ G
    · rw [if_pos hm] at hn; exact absurd rfl hn
    · rw [if_neg hm] at hn; exact ⟨hn, hm⟩
  have hO : ∀ i v, M i v = none → Ow ((s.morph G M N').H i v) → Ow (s.H i v) ∧ (i, v) ∉ G := by
    intro i v e hn
    rw [hHn i v e] at hn
    by_cases hm : (i, v) ∈ G
    · rw [if_pos hm] at hn; exact hn.elim
    · rw [if_neg hm] at hn; exact ⟨hn, hm⟩
  have hlive : ∀ j u, Ow (s.H j u) → ∀ b, blkOf (gv j u) = some b → w0.fr b ∧ b < w.heap.size := by
    intro j u hj b hb
    obtain ⟨bl, e, ho⟩ := hj.ex
    exact (h.live j u bl e).blk ho b hb
  have hokb : ∀ b, B b → (∀ j u, Ow (s.H j u) → (j, u) ∉ G → blkOf (gv j u) ≠ some b) → (∀ i v blk g, M i v = some (blk, g) → blkOf g ≠ some b) → okb B (s.morph G M N') gv' b := by
    intro b hB h1 h2
    refine ⟨hB, fun i v hi => ?_⟩
    rcases hcase i v with ⟨blk, g, e⟩ | e
    · rw [hgi i v blk g e]; exact h2 i v blk g e
    · rw [hgo i v e]
      obtain ⟨q1, q2⟩ := hO i v e hi
      exact h1 i v q1 q2
  have hk : Keep B w s gv w' (s.morph G M N') gv' := by
    refine ⟨hsize, fun b hlt hok => hokb b hok.1 (fun j u hj _ => hok.2 j u hj) (fun i v blk g e hb => ?_), fun b hlt hok => hblk b hlt (fun p hp => hok.2 p.1 p.2 (hG p hp)), hN, fun i v hv hn => ?_⟩
    · rcases hg i v blk g e b hb with hge | ⟨p, hp, hpb⟩
      · omega
      · exact hok.2 p.1 p.2 (hG p hp) hpb
    · rcases hcase i v with ⟨blk, g, e⟩ | e
      · rcases hM i v blk g e with ⟨h1, _⟩ | ⟨h1, h2⟩
        · omega
        · exact ⟨(hG _ h1).ne, by rw [hgi i v blk g e, h2]⟩
      · exact ⟨(hH i v e hn).1, hgo i v e⟩
  have hother : ∀ j u, Ow (s.H j u) → (j, u) ∉ G → ∀ b, blkOf (gv j u) = some b → w'.heap[b]? = w.heap[b]? ∧ ∀ i v blk g, M i v = some (blk, g) → blkOf g ≠ some b := by
    intro j u hj hm b hb
    have hnot : ∀ p ∈ G, blkOf (gv p.1 p.2) ≠ some b := by
      intro p hp hpb
      obtain ⟨e1, e2⟩ := h.inj j u p.1 p.2 b hj (hG p hp) hb hpb
      exact hm (by rw [e1, e2]; exact hp)
    refine ⟨hblk b (hlive j u hj b hb).2 hnot, fun i v blk g e hgb => ?_⟩
    rcases hg i v blk g e b hgb with hge | ⟨p, hp, hpb⟩
    · have := (hlive j u hj b hb).2; omega
    · exact hnot p hp hpb
  refine ⟨gv', ⟨h.above, h.defers, h.size, h.below.then hos htape hout hsize (fun k hlt hm => hblk k (Nat.lt_of_lt_of_le hlt h.below.size) (fun p hp hpb => by
      rcases (hlive p.1 p.2 (hG p hp) k hpb).1 with h' | h'
      · omega
      · exact hm h')), fun i v hn => ?_, fun i v blk hH' => ?_, fun i v i' v' b h1 h2 h3 h4 => ?_, fun j => hk.av (h.tmps j)⟩, hk, hgi, hokb⟩
  · show v < N' i
    rcases hcase i v with ⟨blk, g, e⟩ | e
    · rcases hM i v blk g e with ⟨_, h1⟩ | ⟨h1, _⟩
      · exact h1
      · exact Nat.lt_of_lt_of_le (h.ver i v (hG _ h1).ne) (hN i)
    · exact Nat.lt_of_lt_of_le (h.ver i v (hH i v e hn).1) (hN i)
  · rcases hcase i v with ⟨blk', g, e⟩ | e
    · have : blk = blk' := by rw [hHs i v blk' g e] at hH'; cases hH'; rfl
      subst this
      rw [hgi i v blk g e]
      exact hrep _ _ rfl hk hokb hgi i v blk g e
    · have hn : (s.morph G M N').H i v ≠ none := by rw [hH']; simp
      obtain ⟨q1, q2⟩ := hH i v e hn
      have hs3 : s.H i v = some blk := by rw [hHn i v e, if_neg q2] at hH'; exact hH'
      rw [hgo i v e]
      exact hk.b (h.live i v blk hs3) (fun ho b hbk => (hother i v (by rw [hs3]; exact ho) q2 b hbk).1)
  · rcases hcase i v with ⟨blk, g, e⟩ | e
    · rw [hgi i v blk g e] at h3
      rcases hcase i' v' with ⟨blk', g', e'⟩ | e'
      · rw [hgi i' v' blk' g' e'] at h4
        exact hinj i v i' v' blk g blk' g' b e e' h3 h4
      · rw [hgo i' v' e'] at h4
        obtain ⟨q1, q2⟩ := hO i' v' e' h2
        exact absurd h3 ((hother i' v' q1 q2 b h4).2 i v blk g e)
    · rw [hgo i v e] at h3
      obtain ⟨q1, q2⟩ := hO i v e h1
      rcases hcase i' v' with ⟨blk', g', e'⟩ | e'
      · rw [hgi i' v' blk' g' e'] at h4
        exact absurd h4 ((hother i v q1 q2 b h3).2 i' v' blk' g' e')
      · rw [hgo i' v' e'] at h4
        obtain ⟨q3, q4⟩ := hO i' v' e' h2
        exact h.inj i v i' v' b q1 q3 h3 h4
end
end Go.AV
end
