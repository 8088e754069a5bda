/- Handing back what is the frame's own. -/
import Derived.Test.YtlgnflbekdldnaaAv11
set_option linter.unusedVariables false
set_option linter.unusedSimpArgs false
namespace Go.AV
open Go.RowKit

section
variable {B : Nat → Prop} {nt : Nat} {w0 : Base} {w : World} {s : AS} {a : Act} {gv : GV} {P : Program} {K : AS → Prop}

/-! ### Returning -/
def retC (s : AS) : A → R → Prop
  | .c x, .c y => x = y
  | .nil, .c y => y = .sl []
  | .nil, .own _ _ xs => xs = []
  | .own h v, .own E sz xs => s.H h v = some (.arr E sz xs)
  | .own h v, .c y => (∃ E sz xs, s.H h v = some (.arr E sz xs) ∧ y = .sl xs) ∨ ∃ xs, s.H h v = some (.frz xs) ∧ y = .sl xs
  | _, _ => False

def retCs (s : AS) : List A → List R → Prop
  | [], [] => True
  | x :: xs, r :: rs => retC s x r ∧ retCs s xs rs
  | _, _ => False

/-- Handles that are given away as fresh; handles that are given away to be read. -/
def gives : List A → List R → List (Nat × Nat)
  | .own h v :: xs, .own _ _ _ :: rs => (h, v) :: gives xs rs
  | _ :: xs, _ :: rs => gives xs rs
  | _, _ => []
def shows : List A → List R → List (Nat × Nat)
  | .own h v :: xs, .c _ :: rs => (h, v) :: shows xs rs
  | _ :: xs, _ :: rs => shows xs rs
  | _, _ => []

theorem retCs_get {xs : List A} : ∀ {rs : List R}, retCs s xs rs → xs.length = rs.length ∧ ∀ m, m < rs.length → retC s (xs.getD m .any) (rs.getD m (.c .junk)) := by
  induction xs with
  | nil => intro rs h; cases rs with
    | nil => exact ⟨rfl, fun m hm => by simp at hm⟩
    | cons => exact h.elim
  | cons x xs ih => intro rs h; cases rs with
    | nil => exact h.elim
    | cons r rs =>
      obtain ⟨e1, e2⟩ := ih h.2
      refine ⟨by simp [e1], fun m hm => ?_⟩
      cases m with
      | zero => exact h.1
      | succ m => simpa using e2 m (by simpa using hm)

theorem gives_get {xs : List A} : ∀ {rs : List R} (m : Nat) (h v E sz : Nat) (ys : List (List C)), m < rs.length → m < xs.length → xs.getD m .any = .own h v → rs.getD m (.c .junk) = .own E sz ys → (h, v) ∈ gives xs rs := by
  induction xs with
  | nil => intro rs m h v E sz ys _ hm; simp at hm
  | cons x xs ih =>
    intro rs m h v E sz ys h1 h2 h3 h4
    cases rs with
    | nil => simp at h1
    | cons r rs =>
      cases m with
      | zero =>
        simp only [List.getD_cons_zero] at h3 h4
        subst h3 h4
        simp [gives]
      | succ m =>
        have := ih m h v E sz ys (by simpa using h1) (by simpa using h2) (by simpa using h3) (by simpa using h4)
        cases x <;> cases r <;> simp [gives, this]

theorem shows_get {xs : List A} : ∀ {rs : List R} (m : Nat) (h v : Nat) (y : C), m < rs.length → m < xs.length → xs.getD m .any = .own h v → rs.getD m (.c .junk) = .c y → (h, v) ∈ shows xs rs := by
  induction xs with
  | nil => intro rs m h v y _ hm; simp at hm
  | cons x xs ih =>
    intro rs m h v y h1 h2 h3 h4
    cases rs with
    | nil => simp at h1
    | cons r rs =>
      cases m with
      | zero =>
        simp only [List.getD_cons_zero] at h3 h4
        subst h3 h4
        simp [shows]
      | succ m =>
        have := ih m h v y (by simpa using h1) (by simpa using h2) (by simpa using h3) (by simpa using h4)
        cases x <;> cases r <;> simp [shows, this]

theorem gives_inj {xs : List A} : ∀ {rs : List R}, (gives xs rs).Nodup → ∀ (m m' h v E sz E' sz' : Nat) (ys ys' : List (List C)), m < rs.length → m < xs.length → m' < rs.length → m' < xs.length → xs.getD m .any = .own h v → xs.getD m' .any = .own h v →
    rs.getD m (.c .junk) = .own E sz ys → rs.getD m' (.c .junk) = .own E' sz' ys' → m = m' := by
  induction xs with
  | nil => intro rs _ m m' h v E sz E' sz' ys ys' _ hm; simp at hm
  | cons x xs ih =>
    intro rs hnd m m' h v E sz E' sz' ys ys' h1 h2 h3 h4 h5 h6 h7 h8
    cases rs with
    | nil => simp at h1
    | cons r rs =>
      cases m with
      | zero =>
        simp only [List.getD_cons_zero] at h5 h7
        subst h5 h7
        cases m' with
        | zero => rfl
        | succ m' =>
          exfalso
          simp only [gives, List.nodup_cons] at hnd
          exact hnd.1 (gives_get m' h v E' sz' ys' (by simpa using h3) (by simpa using h4) (by simpa using h6) (by simpa using h8))
      | succ m =>
        cases m' with
        | zero =>
          exfalso
          simp only [List.getD_cons_zero] at h6 h8
          subst h6 h8
          simp only [gives, List.nodup_cons] at hnd
          exact hnd.1 (gives_get m h v E sz ys (by simpa using h1) (by simpa using h2) (by simpa using h5) (by simpa using h7))
        | succ m' =>
          have hnd' : (gives xs rs).Nodup := by
            cases x <;> cases r <;> simp only [gives, List.nodup_cons] at hnd <;> first | exact hnd | exact hnd.2
          rw [ih hnd' m m' h v E sz E' sz' ys ys' (by simpa using h1) (by simpa using h2) (by simpa using h3) (by simpa using h4) (by simpa using h5) (by simpa using h6) (by simpa using h7) (by simpa using h8)]

theorem SimG.ret {ok : Nat → Prop} (hB : ∀ b, B b → ok b ∨ w0.fr b) (hs : SimG B nt w0 s a w gv) {xs : List A} {rs : List R} {vs : List Value} (hrep : RepAs B w s gv xs vs) (hr : retCs s xs rs) (hnd : (gives xs rs).Nodup) (hsh : ∀ p ∈ shows xs rs, p ∉ gives xs rs) :
    RepRs w0.fr w ok rs vs := by
  obtain ⟨hl, hget⟩ := retCs_get hr
  have hvl : vs.length = rs.length := by rw [hrep.1, hl]
  -- an own result is a live row
  have hown : ∀ m, m < rs.length → ∀ b, ownOf (rs.getD m (.c .junk)) (vs.getD m Go.undef) = some b → ∃ h v E sz ys, xs.getD m .any = .own h v ∧ rs.getD m (.c .junk) = .own E sz ys ∧ s.H h v = some (.arr E sz ys) ∧ blkOf (gv h v) = some b := by
    intro m hm b hb
    have hg := hget m hm
    have hx := hrep.2 m (by omega)
    generalize hxe : xs.getD m .any = x at hg hx
    generalize hre : rs.getD m (.c .junk) = r at hg hb
    generalize hve : vs.getD m Go.undef = vv at hx hb
    cases r with
    | c => cases hb
    | own E sz ys =>
      cases x with
      | nil => cases hx; cases hb
      | own h v =>
        simp only [retC] at hg
        cases hx with
        | own hv hxx =>
          have := hxx (by rw [hg]; simp)
          rw [this] at hb
          exact ⟨h, v, E, sz, ys, rfl, rfl, hg, blkOf_ownBlock hb⟩
      | _ => simp [retC] at hg
  have hokmono : ∀ b, okb B s gv b → (ok b ∨ w0.fr b) ∧ ∀ j, j < rs.length → ownOf (rs.getD j (.c .junk)) (vs.getD j Go.undef) ≠ some b := by
    intro b hb
    refine ⟨hB b hb.1, fun j hj e => ?_⟩
    obtain ⟨h, v, E, sz, ys, _, _, hH, hbk⟩ := hown j hj b e
    exact hb.2 h v (by rw [hH]; trivial) hbk
  refine ⟨hvl, fun m hm => ?_, fun i j b hi hj hbi hbj => ?_⟩
  · have hg := hget m hm
    have hx := hrep.2 m (by omega)
    generalize hxe : xs.getD m .any = x at hg hx
    generalize hre : rs.getD m (.c .junk) = r at hg
    cases x with
    | c x =>
      cases r with
      | c y =>
        simp only [retC] at hg
        subst hg
        cases hx with | c hx => exact hx.mono (fun b _ hb => hokmono b hb) (Nat.le_refl _) (fun _ _ _ => rfl)
      | own => simp [retC] at hg
    | nil =>
      generalize hve : vs.getD m Go.undef = v at hx
      cases hx
      cases r with
      | c y => simp only [retC] at hg; subst hg; exact .nil
      | own E sz ys =>
        simp only [retC] at hg
        subst hg
        exact ⟨[], by simp, World.ownsRow_nil _ _ _ _, by simp [Value.ownBlock], rfl, by simp⟩
    | own h v =>
      generalize hve : vs.getD m Go.undef = u at hx
      cases hx with
      | own hv hxx =>
        cases r with
        | own E sz ys =>
          simp only [retC] at hg
          have := hxx (by rw [hg]; simp)
          subst this
          obtain ⟨vals, h1, h2, h4, h3⟩ := hs.live h v _ hg
          exact ⟨vals, h1, h2, fun b hb => h4 b (blkOf_ownBlock hb), h3.mono (fun b _ hb => hokmono b hb) (Nat.le_refl _) (fun _ _ _ => rfl)⟩
        | c y =>
          simp only [retC] at hg
          rcases hg with ⟨E, sz, ys, hH, rfl⟩ | ⟨ys, hH, rfl⟩
          rotate_left
          · have := hxx (by rw [hH]; simp)
            subst this
            exact RepC.mono (hs.live h v _ hH) (fun b _ hb => hokmono b hb) (Nat.le_refl _) (fun _ _ _ => rfl)
          have := hxx (by rw [hH]; simp)
          subst this
          obtain ⟨vals, h1, h2, h4, h3⟩ := hs.live h v _ hH
          refine RepCs.sl h1 h2 (h3.mono (fun b _ hb => hokmono b hb) (Nat.le_refl _) (fun _ _ _ => rfl)) (fun b hb => ⟨.inr (h4 b hb), fun j hj e => ?_⟩)
          obtain ⟨h', v', E', sz', ys', hxe', hre', hH', hbk'⟩ := hown j hj b e
          obtain ⟨rfl, rfl⟩ := hs.inj h v h' v' b (by rw [hH]; trivial) (by rw [hH']; trivial) hb hbk'
          exact hsh _ (shows_get m h v _ hm (by omega) hxe hre) (gives_get j h v E' sz' ys' hj (by omega) hxe' hre')
    | _ => simp [retC] at hg
  · obtain ⟨h, v, E, sz, ys, e1, e2, e3, e4⟩ := hown i hi b hbi
    obtain ⟨h', v', E', sz', ys', e1', e2', e3', e4'⟩ := hown j hj b hbj
    obtain ⟨rfl, rfl⟩ := hs.inj h v h' v' b (by rw [e3]; trivial) (by rw [e3']; trivial) e4 e4'
    exact gives_inj hnd i j h v E sz E' sz' ys ys' hi (by omega) hj (by omega) e1 e1' e2 e2'

end
end Go.AV
