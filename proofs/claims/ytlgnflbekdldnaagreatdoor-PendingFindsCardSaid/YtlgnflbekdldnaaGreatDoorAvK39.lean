/- Texts AvZa AvZb AvZc AvZd AvZe AvZf. -/
import Derived.Test.YtlgnflbekdldnaaGreatDoorAvK38
set_option linter.unusedVariables false
set_option linter.unusedSimpArgs false
set_option linter.unusedSectionVars false
noncomputable section
set_option maxRecDepth 4000
namespace Go.Proofs
open Go Go.AV
namespace VU
attribute [local irreducible] Runs
theorem sub {n : Nat} {v x : GVal} (h : SizeOf.sizeOf v < n + 1) (hx : x ∈ v.Items) : SizeOf.sizeOf x < n := Nat.lt_of_lt_of_le (GVal.lt hx) (Nat.le_of_lt_succ h)
theorem size237 : ∀ n (v : GVal), SizeOf.sizeOf v < n → v.ok → (Tryz.n237 n).1 v (VV.sz v)
  | 0, v, h, _ => absurd h (Nat.not_lt_zero _)
  | n + 1, v, h, hv => by
    obtain ⟨h1, h2⟩ := GVal.okI hv
    refine U.run_jump ?_
    show Ev _ _ _
    rw [VV.sz_eq]
    refine U.ev_for v.Items (fun i s => Tryz.J237.s0 v s i) (fun _ _ => True) VV.szs (reach80 h2) ?_ ?_ 1 trivial
    · intro s _; exact U.run_len (U.run_f U.dec_f (U.run_ret rfl))
    · intro i hi s _ hw ht x r hx hm y hy ih
      refine U.run_len (U.run_t ht (U.run_elemX hi hx (U.run_call _ (size237 n _ (sub h hm) (h1 _ hm)) ?_)))
      refine U.run_jump ?_
      show Ev _ _ _
      rw [hw]; exact ih _ trivial hy.symm
theorem size217 : ∀ n (v : GVal), SizeOf.sizeOf v < n → v.ok → (Tryz.n217 n).1 v (VV.sz v)
  | 0, v, h, _ => absurd h (Nat.not_lt_zero _)
  | n + 1, v, h, hv => by
    obtain ⟨h1, h2⟩ := GVal.okI hv
    refine U.run_len ?_
    refine U.run_jump ?_
    show Ev _ _ _
    rw [VV.sz_eq]
    refine U.ev_for v.Items (fun i s => Tryz.J217.s0 s v.Items v.Items.length i) (fun _ _ => True) VV.szs (reach80 h2) ?_ ?_ 1 trivial
    · intro s _; exact U.run_f U.dec_f (U.run_ret rfl)
    · intro i hi s _ hw ht x r hx hm y hy ih
      refine U.run_t ht (U.run_elemX hi hx (U.run_call _ (size217 n _ (sub h hm) (h1 _ hm)) ?_))
      refine U.run_jump ?_
      show Ev _ _ _
      rw [hw]; exact ih _ trivial hy.symm
theorem dep216 : ∀ n (v : GVal), SizeOf.sizeOf v < n → v.ok → (Tryz.n216 n).1 v (VV.dep v)
  | 0, v, h, _ => absurd h (Nat.not_lt_zero _)
  | n + 1, v, h, hv => by
    obtain ⟨h1, h2⟩ := GVal.okI hv
    refine U.run_len ?_
    refine U.run_jump ?_
    show Ev _ _ _
    rw [VV.dep_eq]
    refine U.ev_for v.Items (fun i s => Tryz.J216.s0 s v.Items v.Items.length i) (fun _ _ => True) (fun l m => IntKind.i64.wrap (VV.deps l m + 1)) (reach80 h2) ?_ ?_ 0 trivial
    · intro s _; exact U.run_f U.dec_f (U.run_ret rfl)
    · intro i hi s _ hw ht x r hx hm y hy ih
      refine U.run_t ht (U.run_elemX hi hx (U.run_call _ (dep216 n _ (sub h hm) (h1 _ hm)) ?_))
      refine U.run_jump ?_
      show Ev _ _ _
      rw [hw]; exact ih _ trivial hy.symm
theorem dep236 : ∀ n (v : GVal), SizeOf.sizeOf v < n → v.ok → (Tryz.n236 n).1 v (VV.dep v)
  | 0, v, h, _ => absurd h (Nat.not_lt_zero _)
  | n + 1, v, h, hv => by
    obtain ⟨h1, h2⟩ := GVal.okI hv
    refine U.run_jump ?_
    show Ev _ _ _
    rw [VV.dep_eq]
    refine U.ev_for v.Items (fun i s => Tryz.J236.s0 v s i) (fun _ _ => True) (fun l m => IntKind.i64.wrap (VV.deps l m + 1)) (reach80 h2) ?_ ?_ 0 trivial
    · intro s _; exact U.run_len (U.run_f U.dec_f (U.run_ret rfl))
    · intro i hi s _ hw ht x r hx hm y hy ih
      refine U.run_len (U.run_t ht (U.run_elemX hi hx (U.run_call _ (dep236 n _ (sub h hm) (h1 _ hm)) ?_)))
      refine U.run_ite (fun hb => ?_) (fun hb => ?_)
      · refine U.run_jump ?_
        show Ev _ _ _
        rw [hw]; refine ih _ trivial ?_
        rw [hy]; simp only [VV.deps]; rw [if_pos (of_decide_eq_true hb)]
      · refine U.run_jump ?_
        show Ev _ _ _
        rw [hw]; refine ih _ trivial ?_
        rw [hy]; simp only [VV.deps]; rw [if_neg (of_decide_eq_false hb)]
def idxF {α : Type} (p : α → Bool) : List α → Int → Int
  | [], _ => -1
  | x :: r, k => if p x = true then k else idxF p r (k + 1)
theorem idxF_any {α : Type} (p : α → Bool) : ∀ (l : List α) (k : Int), 0 ≤ k → decide (0 ≤ idxF p l k) = l.any p
  | [], k, _ => rfl
  | x :: r, k, hk => by
    simp only [idxF, List.any_cons]
    by_cases h : p x = true
    · simp only [h, if_true, Bool.true_or, decide_eq_true_eq]; exact hk
    · simp only [Bool.eq_false_iff.2 h, if_false, Bool.false_or, Bool.false_eq_true]; exact idxF_any p r (k + 1) (by omega)
theorem idx231 (s : List ByteArray) (f : Tryz.Clo158) (p : ByteArray → Bool) (hp : ∀ x ∈ s, f.R x (p x)) (hl : s.length ≤ 4611686018427387904) : Tryz.m231.R (s, f) (idxF p s 0) := by
  refine U.run_len ?_
  refine U.run_jump ?_
  show Ev _ _ _
  refine (U.ev_for s (fun i (k : Nat) => Tryz.J231.s0 s f s.length i) (fun i k => k = i) (fun l k => idxF p l k) hl ?_ ?_ 0 rfl :)
  · intro k _; exact U.run_f U.dec_f (U.run_ret rfl)
  · intro i hi k hk hw ht x r hx hm y hy ih
    refine U.run_t ht (U.run_elemX hi hx (U.run_call _ (hp _ hm) ?_))
    refine U.run_ite (fun hb => ?_) (fun hb => ?_)
    · refine U.run_ret ?_
      show (i : Int) = y
      rw [hy, idxF, if_pos hb, hk]
    · refine U.run_jump ?_
      show Ev _ _ _
      rw [hw]; refine ih (i + 1) rfl ?_
      rw [hy, idxF, if_neg (by rw [hb]; decide), hk]; rfl
theorem has200 (s : List ByteArray) (f : Tryz.Clo158) (p : ByteArray → Bool) (hp : ∀ x ∈ s, f.R x (p x)) (hl : s.length ≤ 4611686018427387904) : Tryz.m200.R (s, f) (s.any p) := by
  refine U.run_call _ (idx231 s f p hp hl) ?_
  exact U.run_ret (idxF_any p s 0 (by decide))
theorem idx241 (s : List GVal) (f : Tryz.Clo134) (p : GVal → Bool) (hp : ∀ x ∈ s, f.R x (p x)) (hl : s.length ≤ 4611686018427387904) : Tryz.m241.R (s, f) (idxF p s 0) := by
  refine U.run_len ?_
  refine U.run_jump ?_
  show Ev _ _ _
  refine (U.ev_for s (fun i (k : Nat) => Tryz.J241.s0 s f s.length i) (fun i k => k = i) (fun l k => idxF p l k) hl ?_ ?_ 0 rfl :)
  · intro k _; exact U.run_f U.dec_f (U.run_ret rfl)
  · intro i hi k hk hw ht x r hx hm y hy ih
    refine U.run_t ht (U.run_elemX hi hx (U.run_call _ (hp _ hm) ?_))
    refine U.run_ite (fun hb => ?_) (fun hb => ?_)
    · refine U.run_ret ?_
      show (i : Int) = y
      rw [hy, idxF, if_pos hb, hk]
    · refine U.run_jump ?_
      show Ev _ _ _
      rw [hw]; refine ih (i + 1) rfl ?_
      rw [hy, idxF, if_neg (by rw [hb]; decide), hk]; rfl
theorem has220 (s : List GVal) (f : Tryz.Clo134) (p : GVal → Bool) (hp : ∀ x ∈ s, f.R x (p x)) (hl : s.length ≤ 4611686018427387904) : Tryz.m220.R (s, f) (s.any p) := by
  refine U.run_call _ (idx241 s f p hp hl) ?_
  exact U.run_ret (idxF_any p s 0 (by decide))
theorem not_any_not {α : Type} (p : α → Bool) (l : List α) : (!l.any fun x => !p x) = l.all p := by
  induction l with
  | nil => rfl
  | cons x r ih => simp only [List.any_cons, List.all_cons, Bool.not_or, Bool.not_not, ih]
theorem short218 : ∀ n (v : GVal), SizeOf.sizeOf v < n → v.ok → (Tryz.n218 n).1 v (VV.short v)
  | 0, v, h, _ => absurd h (Nat.not_lt_zero _)
  | n + 1, v, h, hv => by
    obtain ⟨h1, h2⟩ := GVal.okI hv
    obtain ⟨h3, h4⟩ := GVal.okK hv
    rw [VV.short_eq]
    refine U.run_ite (fun hb => U.run_ret ?_) (fun hb => ?_)
    · show _ = _
      unfold VV.lg; rw [hb]; rfl
    refine U.run_call _ (has200 v.Keys _ VV.lg (fun x _ => U.run_ret rfl) (reach16 h4)) ?_
    refine U.run_ite (fun hb2 => U.run_ret ?_) (fun hb2 => ?_)
    · show _ = _
      rw [hb2]; simp
    refine U.run_call _ (has220 v.Items _ (fun x => !VV.short x) (fun x hx => U.run_call _ (short218 n x (sub h hx) (h1 _ hx)) (U.run_ret rfl)) (reach80 h2)) ?_
    refine U.run_ret ?_
    show _ = _
    rw [not_any_not, hb2]; unfold VV.lg; rw [hb]; simp
theorem short235 : ∀ n (v : GVal), SizeOf.sizeOf v < n → v.ok → (Tryz.n235 n).1 v (VV.short v)
  | 0, v, h, _ => absurd h (Nat.not_lt_zero _)
  | n + 1, v, h, hv => by
    obtain ⟨h1, h2⟩ := GVal.okI hv
    obtain ⟨h3, h4⟩ := GVal.okK hv
    rw [VV.short_eq]
    refine U.run_ite (fun hb => U.run_ret ?_) (fun hb => ?_)
    · show _ = _
      unfold VV.lg; rw [hb]; rfl
    have e : VV.lg v.Text = false := hb
    rw [e]
    refine U.run_jump ?_
    show Ev _ _ _
    refine (U.ev_for v.Keys (fun i (_ : Unit) => Tryz.J235.s0 v i) (fun _ _ => True) (fun l _ => !false && !l.any VV.lg && v.Items.all VV.short) (reach16 h4) ?_ ?_ () trivial :)
    · intro s _
      refine U.run_len (U.run_f U.dec_f (U.run_jump ?_))
      show Ev _ _ _
      refine (U.ev_for v.Items (fun i (_ : Unit) => Tryz.J235.s1 v i) (fun _ _ => True) (fun l _ => l.all VV.short) (reach80 h2) ?_ ?_ () trivial :)
      · intro s _; exact U.run_len (U.run_f U.dec_f (U.run_ret rfl))
      · intro i hi s _ hw ht x r hx hm y hy ih
        refine U.run_len (U.run_t ht (U.run_elemX hi hx (U.run_call _ (short235 n _ (sub h hm) (h1 _ hm)) ?_)))
        refine U.run_ite (fun hb => U.run_ret ?_) (fun hb => U.run_jump ?_)
        · show _ = _
          rw [hy]; simp at hb; simp [hb]
        · show Ev _ _ _
          rw [hw]; refine ih () trivial ?_
          rw [hy]; simp at hb; simp [hb]
    · intro i hi s _ hw ht x r hx hm y hy ih
      refine U.run_len (U.run_t ht (U.run_elemX hi hx ?_))
      refine U.run_ite (fun hb => U.run_ret ?_) (fun hb => U.run_jump ?_)
      · show _ = _
        have hb' : VV.lg x = true := hb
        rw [hy]; simp [hb']
      · show Ev _ _ _
        have hb' : VV.lg x = false := hb
        rw [hw]; refine ih () trivial ?_
        rw [hy]; simp [hb']
theorem fut210 : ∀ n (v : GVal), SizeOf.sizeOf v < n → v.ok → (Tryz.n210 n).1 v (VV.fut v)
  | 0, v, h, _ => absurd h (Nat.not_lt_zero _)
  | n + 1, v, h, hv => by
    obtain ⟨h1, h2⟩ := GVal.okI hv
    rw [VV.fut_eq]
    refine U.run_jump ?_
    show Ev _ _ _
    refine (U.ev_for v.Items (fun i (_ : Unit) => Tryz.J210.s0 v i) (fun _ _ => True) (fun l _ => l.any VV.fut || decide (v.Kind = 6)) (reach80 h2) ?_ ?_ () trivial :)
    · intro s _
      refine U.run_len (U.run_f U.dec_f (U.run_ret ?_))
      show _ = _
      simp; rfl
    · intro i hi s _ hw ht x r hx hm y hy ih
      refine U.run_len (U.run_t ht (U.run_elemX hi hx (U.run_call _ (fut210 n _ (sub h hm) (h1 _ hm)) ?_)))
      refine U.run_ite (fun hb => U.run_ret ?_) (fun hb => U.run_jump ?_)
      · show _ = _
        rw [hy]; simp [hb]
      · show Ev _ _ _
        rw [hw]; refine ih () trivial ?_
        rw [hy]; simp [hb]
theorem asc_cons (a b : ByteArray) (r : List ByteArray) : VV.asc (a :: b :: r) = (strLt a b && VV.asc (b :: r)) := by
  unfold VV.asc
  have : (a :: b :: r).length - 1 = (b :: r).length - 1 + 1 := by simp
  rw [this, List.range_succ_eq_map, List.all_cons, List.all_map]
  rfl
theorem asc219 (l : List ByteArray) (hl : l.length ≤ 4611686018427387904) : Tryz.m219.R l (VV.asc l) := by
  have key : ∀ (n i : Nat), n + i + 1 = l.length → Ev Tryz.c219 (.s0 l ((i + 1 : Nat) : Int)) (VV.asc (l.drop i)) := by
    intro n
    induction n with
    | zero =>
      intro i hi
      refine Ev.intro (U.run_len (U.run_f ?_ (U.run_ret ?_)))
      · rw [show i + 1 = l.length by omega]; exact U.dec_f
      · show _ = _
        rw [List.drop_eq_getElem_cons (show i < l.length by omega), List.drop_eq_nil_of_le (by omega)]; rfl
    | succ n ih =>
      intro i hi
      have h1 : i + 1 < l.length := by omega
      have e : l.drop i = l[i] :: l[i + 1] :: l.drop (i + 2) := by
        rw [List.drop_eq_getElem_cons (show i < l.length by omega), List.drop_eq_getElem_cons h1]
      refine Ev.intro (U.run_len (U.run_t (U.dec_t h1) (U.run_elemP i (by rw [w64] <;> omega) (by omega) (U.run_elem h1 ?_))))
      rw [e, asc_cons]
      refine U.run_ite (fun hb => U.run_ret ?_) (fun hb => U.run_jump ?_)
      · show _ = _
        simp at hb; rw [hb]; rfl
      · show Ev _ _ _
        rw [U.wsucc h1 hl]
        have := ih (i + 1) (by omega)
        rw [List.drop_eq_getElem_cons h1] at this
        simp at hb; rw [hb, Bool.true_and]; exact this
  refine U.run_jump ?_
  show Ev _ _ _
  cases h : l.length with
  | zero =>
    have : l = [] := List.eq_nil_of_length_eq_zero h
    subst this
    exact Ev.intro (U.run_len (U.run_f rfl (U.run_ret rfl)))
  | succ m =>
    have := key m 0 (by omega)
    rwa [List.drop_zero] at this
theorem asc234 (l : List ByteArray) (hl : l.length ≤ 4611686018427387904) : Tryz.m234.R l (VV.asc l) := by
  have key : ∀ (n i : Nat), n + i + 1 = l.length → Ev Tryz.c234 (.s0 l ((i + 1 : Nat) : Int)) (VV.asc (l.drop i)) := by
    intro n
    induction n with
    | zero =>
      intro i hi
      refine Ev.intro (U.run_len (U.run_f ?_ (U.run_ret ?_)))
      · rw [show i + 1 = l.length by omega]; exact U.dec_f
      · show _ = _
        rw [List.drop_eq_getElem_cons (show i < l.length by omega), List.drop_eq_nil_of_le (by omega)]; rfl
    | succ n ih =>
      intro i hi
      have h1 : i + 1 < l.length := by omega
      have e : l.drop i = l[i] :: l[i + 1] :: l.drop (i + 2) := by
        rw [List.drop_eq_getElem_cons (show i < l.length by omega), List.drop_eq_getElem_cons h1]
      refine Ev.intro (U.run_len (U.run_t (U.dec_t h1) (U.run_elemP i (by rw [w64] <;> omega) (by omega) (U.run_elem h1 ?_))))
      rw [e, asc_cons]
      refine U.run_ite (fun hb => U.run_ret ?_) (fun hb => U.run_jump ?_)
      · show _ = _
        simp at hb; rw [hb]; rfl
      · show Ev _ _ _
        rw [U.wsucc h1 hl]
        have := ih (i + 1) (by omega)
        rw [List.drop_eq_getElem_cons h1] at this
        simp at hb; rw [hb, Bool.true_and]; exact this
  refine U.run_jump ?_
  show Ev _ _ _
  cases h : l.length with
  | zero =>
    have : l = [] := List.eq_nil_of_length_eq_zero h
    subst this
    exact Ev.intro (U.run_len (U.run_f rfl (U.run_ret rfl)))
  | succ m =>
    have := key m 0 (by omega)
    rwa [List.drop_zero] at this
end VU
end Go.Proofs
set_option maxRecDepth 4000
namespace Go.Proofs
open Go Go.AV
namespace VU
attribute [local irreducible] Runs
theorem pos0 (n : Nat) : decide (0 < (n : Int)) = !decide ((n : Int) = 0) := by
  cases n with
  | zero => rfl
  | succ n => rw [decide_eq_true (by omega), decide_eq_false (by omega)]; rfl
theorem form196 : ∀ n (v : GVal) (b : Bool), SizeOf.sizeOf v < n → v.ok → (Tryz.n184 n).1 (v, b) (VV.wf b v)
  | 0, v, b, h, _ => absurd h (Nat.not_lt_zero _)
  | n + 1, v, b, h, hv => by
    obtain ⟨h1, h2⟩ := GVal.okI hv
    obtain ⟨h3, h4⟩ := GVal.okK hv
    have hrec : Ev (Tryz.c184 (Tryz.n184 n).1 (Tryz.n184 n).2) (.s0 v b) (v.Items.all (VV.wf b)) := by
      refine Ev.intro (U.run_call _ (has220 v.Items _ (fun x => !VV.wf b x) (fun x hx => U.run_call _ (form196 n x b (sub h hx) (h1 _ hx)) (U.run_ret rfl)) (reach80 h2)) (U.run_ret ?_))
      show _ = _
      exact not_any_not _ _
    have hasc := asc219 v.Keys (reach16 h4)
    refine U.run_len (U.run_len ?_)
    rcases VV.wf_kinds b v with ⟨hk, hw⟩ | ⟨hk, hw⟩ | ⟨hk, hw⟩ | ⟨hk, hw⟩ | ⟨hk, hw⟩ | ⟨hk, hw⟩ | ⟨hk, hw⟩ | ⟨⟨k0, k1, k2, k6, k3, k4, k5⟩, hw⟩
    case inr.inr.inr.inr.inr.inr.inr =>
      rw [hw]
      refine U.run_f (by simpa using k0) (U.run_f (by simpa using k1) (U.run_f (by simpa using k2) (U.run_f (by simpa using k6) (U.run_f (by simpa using k3) (U.run_f (by simpa using k4) (U.run_f (by simpa using k5) (U.run_ret rfl)))))))
    all_goals rw [hw]
    all_goals repeat' (first
      | refine U.run_len ?_
      | refine U.run_f (by rw [hk]; decide) ?_
      | refine U.run_t (by rw [hk]; decide) ?_
      | refine U.run_call _ hasc ?_
      | refine U.run_ite (fun hb => ?_) (fun hb => ?_)
      | refine U.run_ret ?_
      | refine U.run_jump ?_)
    all_goals first
      | (show Ev _ _ _; simp [strEq_iff] at *; simp_all; done)
      | (show _ = _; simp only [pos0, strEq_iff, bne, Bool.not_not] at *; simp [-Int.natCast_eq_zero, -List.length_eq_zero_iff] at *; simp_all [-Int.natCast_eq_zero, -List.length_eq_zero_iff]; done)
      | (have hb' : decide (0 ≤ v.Num) = false := (by assumption); show _ = _; rw [hb']; simp; done)
theorem beqI (a b : Int) : (a == b) = decide (a = b) := rfl
theorem form208 : ∀ n (v : GVal), SizeOf.sizeOf v < n → v.ok → (Tryz.n208 n).1 v (VV.wf true v)
  | 0, v, h, _ => absurd h (Nat.not_lt_zero _)
  | n + 1, v, h, hv => by
    obtain ⟨h1, h2⟩ := GVal.okI hv
    obtain ⟨h3, h4⟩ := GVal.okK hv
    have hasc := asc234 v.Keys (reach16 h4)
    rw [VV.wf_eq]
    refine U.run_jump ?_
    show Ev _ _ _
    refine (U.ev_for v.Items (fun i (_ : Unit) => Tryz.J208.s0 v i) (fun _ _ => True) (fun l _ => VV.base true v.Kind v.Num v.Text (v.Items.length : Int) v.Keys && l.all (VV.wf true)) (reach80 h2) ?_ ?_ () trivial :)
    · intro s _
      refine U.run_len (U.run_f U.dec_f ?_)
      dsimp only [List.all_nil]
      rw [Bool.and_true]
      have hb0 : ∀ b, b = VV.base true v.Kind v.Num v.Text (v.Items.length : Int) v.Keys → b = VV.base true v.Kind v.Num v.Text (v.Items.length : Int) v.Keys := fun _ h => h
      generalize hB : VV.base true v.Kind v.Num v.Text (v.Items.length : Int) v.Keys = B at *
      clear hb0
      have hB' : VV.base true v.Kind v.Num v.Text (v.Items.length : Int) v.Keys = B := hB
      unfold VV.base at hB'
      repeat' (first
        | refine U.run_len ?_
        | refine U.run_call _ hasc ?_
        | refine U.run_ite (fun hb => ?_) (fun hb => ?_)
        | refine U.run_ret ?_)
      all_goals (show _ = _; try simp only [strEq_iff, beqI] at *)
      all_goals (try simp only [decide_eq_true_eq, decide_eq_false_iff_not] at *)
      all_goals (simp_all [-Int.natCast_eq_zero, -List.length_eq_zero_iff]; done)
    · intro i hi s _ hw ht x r hx hm y hy ih
      refine U.run_len (U.run_t ht (U.run_elemX hi hx (U.run_call _ (form208 n _ (sub h hm) (h1 _ hm)) ?_)))
      refine U.run_ite (fun hb => U.run_ret ?_) (fun hb => U.run_jump ?_)
      · show _ = _
        simp at hb; rw [hy]; simp [hb]
      · show Ev _ _ _
        simp at hb
        rw [hw]; refine ih () trivial ?_
        rw [hy]; simp [hb]
end VU
end Go.Proofs
set_option maxRecDepth 4000
namespace Go.Proofs
open Go Go.AV
namespace VU
attribute [local irreducible] Runs
def right (v : GVal) : Bool := VV.within v && VV.wf false v
theorem m237 (v : GVal) (hv : v.ok) : Tryz.m237.R v (VV.sz v) := ⟨_, size237 (SizeOf.sizeOf v + 1) v (Nat.lt_succ_self _) hv⟩
theorem m216 (v : GVal) (hv : v.ok) : Tryz.m216.R v (VV.dep v) := ⟨_, dep216 (SizeOf.sizeOf v + 1) v (Nat.lt_succ_self _) hv⟩
theorem m217 (v : GVal) (hv : v.ok) : Tryz.m217.R v (VV.sz v) := ⟨_, size217 (SizeOf.sizeOf v + 1) v (Nat.lt_succ_self _) hv⟩
theorem m218 (v : GVal) (hv : v.ok) : Tryz.m218.R v (VV.short v) := ⟨_, short218 (SizeOf.sizeOf v + 1) v (Nat.lt_succ_self _) hv⟩
theorem m235 (v : GVal) (hv : v.ok) : Tryz.m235.R v (VV.short v) := ⟨_, short235 (SizeOf.sizeOf v + 1) v (Nat.lt_succ_self _) hv⟩
theorem m236 (v : GVal) (hv : v.ok) : Tryz.m236.R v (VV.dep v) := ⟨_, dep236 (SizeOf.sizeOf v + 1) v (Nat.lt_succ_self _) hv⟩
theorem m210 (v : GVal) (hv : v.ok) : Tryz.m210.R v (VV.fut v) := ⟨_, fut210 (SizeOf.sizeOf v + 1) v (Nat.lt_succ_self _) hv⟩
theorem m208 (v : GVal) (hv : v.ok) : Tryz.m208.R v (VV.wf true v) := ⟨_, form208 (SizeOf.sizeOf v + 1) v (Nat.lt_succ_self _) hv⟩
theorem m184 (v : GVal) (b : Bool) (hv : v.ok) : Tryz.m184.R (v, b) (VV.wf b v) := ⟨_, form196 (SizeOf.sizeOf v + 1) v b (Nat.lt_succ_self _) hv⟩
theorem m183 (v : GVal) (hv : v.ok) : Tryz.m183.R v (VV.within v) := by
  unfold VV.within
  refine U.run_call _ (m216 v hv) (U.run_ite (fun h1 => U.run_call _ (m217 v hv) (U.run_ite (fun h2 => U.run_call _ (m218 v hv) (U.run_ret ?_)) (fun h2 => U.run_ret ?_))) (fun h1 => U.run_ret ?_))
  · show _ = _; rw [h1, h2]; rfl
  · show _ = _; rw [h1, h2]; rfl
  · show _ = _; rw [h1]; rfl
theorem m119 (v : GVal) (hv : v.ok) : Tryz.m119.R v (right v) := by
  unfold right
  refine U.run_call _ (m183 v hv) (U.run_ite (fun h1 => U.run_call _ (m184 v false hv) (U.run_ret ?_)) (fun h1 => U.run_ret ?_))
  · show _ = _; rw [h1]; rfl
  · show _ = _; rw [h1]; rfl
theorem m209 (v : GVal) (hv : v.ok) : Tryz.m209.R v (VV.within v) := by
  unfold VV.within
  refine U.run_call _ (m235 v hv) (U.run_ite (fun h1 => U.run_call _ (m236 v hv) (U.run_ite (fun h2 => U.run_call _ (m237 v hv) (U.run_ret ?_)) (fun h2 => U.run_ret ?_))) (fun h1 => U.run_ret ?_))
  · show _ = _; rw [h1, h2]; simp
  · show _ = _; rw [h1, h2]; rfl
  · show _ = _; rw [h1]; simp
theorem m158 (v : GVal) (hv : v.ok) : Tryz.m158.R v (right v) := by
  unfold right
  rw [VV.wf_fut]
  refine U.run_call _ (m208 v hv) (U.run_ite (fun h1 => U.run_call _ (m209 v hv) (U.run_ite (fun h2 => U.run_call _ (m210 v hv) (U.run_ret ?_)) (fun h2 => U.run_ret ?_))) (fun h1 => U.run_ret ?_))
  · show _ = _; rw [h1, h2]; simp
  · show _ = _; rw [h1, h2]; rfl
  · show _ = _; rw [h1]; simp
theorem m130 (l : List ByteArray) (hl : l.length * 16 ≤ reachBytes) : Tryz.m130.R l l := by
  refine U.run_nil (fun he => U.run_t rfl (U.run_ret he.symm)) (U.run_f rfl (U.run_bld (U.run_app ?_ (U.run_ret rfl))))
  have := reach_eq; simp; omega
theorem m182 (R : GVal → GVal → Prop) (ok : Tryz.O117 R) (l : List GVal) (hr : ∀ x ∈ l, R x x) (hl : l.length * 80 ≤ reachBytes) : (Tryz.m182 R ok).R l l := by
  refine U.run_len (U.run_adT (U.run_jump ?_))
  show Ev _ _ _
  refine (U.ev_for l (fun i s => Tryz.J182.s0 s l l.length i) (fun i s => s.length = i) (fun r s => s ++ r) (reach80 hl) ?_ ?_ [] rfl :)
  · intro s _
    exact U.run_f U.dec_f (U.run_ret (List.append_nil s).symm)
  · intro i hi s hs hw ht x r hx hm y hy ih
    refine U.run_t ht (U.run_elemX hi hx (U.run_call _ (hr _ hm) (U.run_bld (U.run_app ?_ (U.run_jump ?_)))))
    · have := reach_eq; simp; omega
    · show Ev _ _ _
      rw [hw]; refine ih _ (by simp [hs]) ?_
      rw [hy, List.append_assoc]; rfl
theorem copy117 : ∀ n (v : GVal), SizeOf.sizeOf v < n → v.ok → (Tryz.n117 n).1 v v
  | 0, v, h, _ => absurd h (Nat.not_lt_zero _)
  | n + 1, v, h, hv => by
    obtain ⟨h1, h2⟩ := GVal.okI hv
    obtain ⟨h3, h4⟩ := GVal.okK hv
    refine U.run_call _ (m182 _ _ v.Items (fun x hx => copy117 n x (sub h hx) (h1 _ hx)) h2) (U.run_call _ (m130 v.Keys h4) (U.run_ret ?_))
    cases v; rfl
theorem m117 (v : GVal) (hv : v.ok) : Tryz.m117.R v v := ⟨_, copy117 (SizeOf.sizeOf v + 1) v (Nat.lt_succ_self _) hv⟩
theorem same64 : ∀ n (v : GVal), SizeOf.sizeOf v < n → v.ok → (Tryz.n64 n).1 (v, v) true
  | 0, v, h, _ => absurd h (Nat.not_lt_zero _)
  | n + 1, v, h, hv => by
    obtain ⟨h1, h2⟩ := GVal.okI hv
    obtain ⟨h3, h4⟩ := GVal.okK hv
    refine U.run_f (by simp) (U.run_f (by simp) (U.run_f (by simp [strEq_iff]) (U.run_len (U.run_len (U.run_f (by simp) (U.run_len (U.run_len (U.run_f (by simp) (U.run_jump ?_)))))))))
    show Ev _ _ _
    refine (U.ev_for v.Keys (fun i (_ : Unit) => Tryz.J64.s0 v v i) (fun _ _ => True) (fun _ _ => true) (reach16 h4) ?_ ?_ () trivial :)
    · intro s _
      refine U.run_len (U.run_f U.dec_f (U.run_jump ?_))
      show Ev _ _ _
      refine (U.ev_for v.Items (fun i (_ : Unit) => Tryz.J64.s1 v v i) (fun _ _ => True) (fun _ _ => true) (reach80 h2) ?_ ?_ () trivial :)
      · intro s _; exact U.run_len (U.run_f U.dec_f (U.run_ret rfl))
      · intro i hi s _ hw ht x r hx hm y hy ih
        refine U.run_len (U.run_t ht (U.run_elemX hi hx (U.run_elemX hi hx (U.run_call _ (same64 n _ (sub h hm) (h1 _ hm)) (U.run_f rfl (U.run_jump ?_))))))
        show Ev _ _ _
        rw [hw]; exact ih () trivial hy.symm
    · intro i hi s _ hw ht x r hx hm y hy ih
      refine U.run_len (U.run_t ht (U.run_elemX hi hx (U.run_elemX hi hx (U.run_f (by simp [strEq_iff]) (U.run_jump ?_)))))
      show Ev _ _ _
      rw [hw]; exact ih () trivial hy.symm
theorem m64 (v : GVal) (hv : v.ok) : Tryz.m64.R (v, v) true := ⟨_, same64 (SizeOf.sizeOf v + 1) v (Nat.lt_succ_self _) hv⟩
theorem m202 (c : Int) : Tryz.m202.R c (RT.letter c) := by
  show Runs (Tryz.a202 c) _
  unfold Tryz.a202
  repeat' (first | refine U.run_ite (fun hb => ?_) (fun hb => ?_) | refine U.run_ret ?_)
  all_goals (show _ = _; rw [Bool.eq_iff_iff]; simp [RT.letter, beqI] at *; try omega)
theorem m151 (s : ByteArray) : Tryz.m151.R s (RT.nameOk s) := by
  show Runs (Tryz.a151 s) _
  unfold Tryz.a151
  refine U.run_ite (fun h0 => U.run_ret ?_) (fun h0 => U.run_ite (fun h1 => U.run_ret ?_) (fun h1 => ?_))
  · show _ = _
    rw [strEq_iff] at h0
    exact (RT.nameOk_s (fun h => by rw [RT.size_zero.2 (of_decide_eq_true h0)] at h; omega)).symm
  · show _ = _
    have := of_decide_eq_true h1
    exact (RT.nameOk_s (fun h => by omega)).symm
  · have h2 : s.size ≤ 64 := by have := of_decide_eq_false h1; omega
    have h3 : 0 < s.size := by
      rw [strEq_iff] at h0
      have := mt RT.size_zero.1 (of_decide_eq_false h0); omega
    have e : RT.nameOk s = (List.range s.size).all (RT.okAt s) := by unfold RT.nameOk; simp [h2, h3]
    rw [e]
    refine U.run_jump ?_
    show Ev _ _ _
    refine (U.ev_for (List.range s.size) (fun i (_ : Unit) => Tryz.J151.s0 s s.size i) (fun _ _ => True) (fun r _ => r.all (RT.okAt s)) (by simp; omega) ?_ ?_ () trivial :)
    · intro _ _; exact U.run_f (by rw [List.length_range]; exact U.dec_f) (U.run_ret rfl)
    · intro i hi _ _ hw ht x r hx hm y hy ih
      rw [List.length_range] at ht hi
      rw [List.getElem_range] at hx
      subst hx
      have hout : Ev Tryz.c151 (.s0 s s.size (IntKind.i64.wrap ((i : Int) + 1))) y ∨ RT.okAt s i = false := by
        cases ho : RT.okAt s i
        · exact .inr rfl
        · left; rw [hw]; refine ih () trivial ?_; rw [hy]; simp [ho]
      have hf : RT.okAt s i = false → false = y := fun ho => by rw [hy]; simp [ho]
      refine U.run_t ht (U.run_byte hi (U.run_call _ (m202 _) ?_))
      rw [Int.toNat_natCast]
      refine U.run_ite (fun hb => ?_) (fun hb => U.run_jump ?_)
      · have hb' : RT.letter (byteAt s i) = false := by simpa using hb
        refine U.run_ite (fun hc => U.run_ret ?_) (fun hc => U.run_byte hi (U.run_ite (fun hd => U.run_ret ?_) (fun hd => U.run_byte hi (U.run_ite (fun he => U.run_ret ?_) (fun he => U.run_jump ?_)))))
        · exact hf (by simp at hc; subst hc; simp [RT.okAt, hb'])
        · exact hf (by simp at hd; simp [RT.okAt, hb', RT.digit]; omega)
        · exact hf (by simp at he; simp [RT.okAt, hb', RT.digit]; omega)
        · show Ev _ _ _
          refine hout.resolve_right ?_
          simp at hc hd he
          simp [RT.okAt, hb', RT.digit]; omega
      · show Ev _ _ _
        have hb' : RT.letter (byteAt s i) = true := by simpa using hb
        exact hout.resolve_right (by simp [RT.okAt, hb'])
theorem m211 (c : Int) : Tryz.m211.R c (RT.letter c || RT.digit c) := by
  show Runs (Tryz.a211 c) _
  unfold Tryz.a211
  repeat' (first | refine U.run_ite (fun hb => ?_) (fun hb => ?_) | refine U.run_ret ?_)
  all_goals (show _ = _; rw [Bool.eq_iff_iff]; simp [RT.letter, RT.digit, beqI] at *; try omega)
theorem okAt_0 (s : ByteArray) (h : RT.digit (byteAt s 0) = false) (i : Nat) : RT.okAt s i = ((RT.letter (byteAt s i) || RT.digit (byteAt s i))) := by
  unfold RT.okAt
  cases i with
  | zero => rw [h]; simp
  | succ n => simp
theorem m159 (s : ByteArray) : Tryz.m159.R s (RT.nameOk s) := by
  show Runs (Tryz.a159 s) _
  unfold Tryz.a159
  refine U.run_ite (fun h0 => U.run_ret ?_) (fun h0 => U.run_ite (fun h1 => U.run_ret ?_) (fun h1 => ?_))
  · show _ = _
    have := of_decide_eq_true h0
    exact (RT.nameOk_s (fun h => by omega)).symm
  · show _ = _
    have := of_decide_eq_true h1
    exact (RT.nameOk_s (fun h => by omega)).symm
  have h2 : s.size ≤ 64 := by have := of_decide_eq_false h1; omega
  have h3 : 0 < s.size := by have := of_decide_eq_false h0; omega
  have e : RT.nameOk s = (List.range s.size).all (RT.okAt s) := by unfold RT.nameOk; simp [h2, h3]
  have goon : RT.digit (byteAt s 0) = false → Ev Tryz.c159 (.s0 s) (RT.nameOk s) := by
    intro hd
    rw [e]
    refine Ev.intro (U.run_jump ?_)
    show Ev _ _ _
    refine (U.ev_for (List.range s.size) (fun i (_ : Unit) => Tryz.J159.s1 s i) (fun _ _ => True) (fun r _ => r.all (RT.okAt s)) (by simp; omega) ?_ ?_ () trivial :)
    · intro _ _; exact U.run_f (by rw [List.length_range]; exact U.dec_f) (U.run_ret rfl)
    · intro i hi _ _ hw ht x r hx hm y hy ih
      rw [List.length_range] at ht hi
      rw [List.getElem_range] at hx
      subst hx
      refine U.run_t ht (U.run_byte hi (U.run_call _ (m211 _) ?_))
      rw [Int.toNat_natCast, ← okAt_0 s hd]
      refine U.run_ite (fun hb => U.run_ret ?_) (fun hb => U.run_jump ?_)
      · show _ = _
        simp at hb; rw [hy]; simp [hb]
      · show Ev _ _ _
        simp at hb
        rw [hw]; refine ih () trivial ?_; rw [hy]; simp [hb]
  have hby : ∀ {k : Cert Tryz.prog Tryz.J159 Bool} {K}, Runs k K → Runs (.byte s 0 k) K := fun h => U.run_byte (i := 0) h3 h
  refine hby (U.run_ite (fun hc => hby (U.run_ite (fun hd => U.run_ret ?_) (fun hd => U.run_jump (goon ?_)))) (fun hc => U.run_jump (goon ?_)))
  · show _ = _
    refine (RT.nameOk_f 0 h3 ?_).symm
    have h1 : (48 : Int) ≤ byteAt s 0 := of_decide_eq_true hc
    have h2 : byteAt s 0 ≤ (57 : Int) := of_decide_eq_true hd
    simp [RT.okAt, RT.letter]; omega
  · have h2 : ¬ byteAt s 0 ≤ (57 : Int) := of_decide_eq_false hd
    simp [RT.digit]; omega
  · have h1 : ¬ (48 : Int) ≤ byteAt s 0 := of_decide_eq_false hc
    simp [RT.digit]; omega
end VU
end Go.Proofs
end
noncomputable section
set_option maxRecDepth 4000
namespace Go.Proofs
open Go Go.AV
deriving instance DecidableEq for GTimer
deriving instance DecidableEq for GKid
deriving instance DecidableEq for GSend
deriving instance DecidableEq for GUpd
deriving instance DecidableEq for GPending
deriving instance DecidableEq for GEvent
namespace ZE
open VU
attribute [local irreducible] Runs
theorem len16 {l : List ByteArray} (h : l.length * 16 ≤ reachBytes) : l.length ≤ 4611686018427387904 := reach16 h
theorem strEq_i (a b : ByteArray) : strEq a b = true ↔ a = b := by rw [strEq_iff, decide_eq_true_eq]
theorem m90 (a b : List ByteArray) (ha : a.length ≤ 4611686018427387904) : Tryz.m90.R (a, b) (decide (a = b)) := by
  rw [← U.zip_dec strEq strEq_i]
  refine U.run_len (U.run_len ?_)
  show Runs (.ite _ ((a.length : Int) != (b.length : Int)) _ _) _
  rw [U.eq_nn]
  refine U.and_f fun h => U.run_len (U.ke_jump ?_)
  have hl := of_decide_eq_true h
  rw [← Bool.and_true ((a.zip b).all _)]
  refine U.ev_zip a b hl (fun i => Tryz.J90.s0 a b a.length i) strEq true ha (U.run_f U.dec_f (U.ke_ret rfl)) ?_
  intro i h1 h2 ht hw x y hx hy _ _ r ih
  exact U.run_t ht (U.run_elemX h1 hx (U.run_elemX h2 hy (U.and_f fun hp => U.ke_jump (by rw [hw]; exact ih hp))))
theorem m66 (a b : List ByteArray) (ha : a.length ≤ 4611686018427387904) : Tryz.m66.R (a, b) (decide (a = b)) := by
  rw [← U.zip_dec strEq strEq_i]
  refine U.run_len (U.run_len ?_)
  show Runs (.ite _ ((a.length : Int) != (b.length : Int)) _ _) _
  rw [U.eq_nn]
  refine U.and_f fun h => U.ke_jump ?_
  have hl := of_decide_eq_true h
  rw [← Bool.and_true ((a.zip b).all _)]
  refine U.ev_zip a b hl (fun i => Tryz.J66.s0 a b i) strEq true ha (U.run_len (U.run_f U.dec_f (U.ke_ret rfl))) ?_
  intro i h1 h2 ht hw x y hx hy _ _ r ih
  exact U.run_len (U.run_t ht (U.run_elemX h1 hx (U.run_elemX h2 hy (U.and_f fun hp => U.ke_jump (by rw [hw]; exact ih hp)))))
theorem val_dec (a b : GVal) : (a.Kind == b.Kind && (a.Num == b.Num && (strEq a.Text b.Text && (decide (a.Keys = b.Keys) && decide (a.Items = b.Items))))) = decide (a = b) := by
  rw [Bool.eq_iff_iff, decide_eq_true_eq, GVal.eq_iff]
  simp only [Bool.and_eq_true, beq_iff_eq, strEq_i, decide_eq_true_eq]
  constructor
  · rintro ⟨h1, h2, h3, h4, h5⟩; exact ⟨h1, h2, h3, h5, h4⟩
  · rintro ⟨h1, h2, h3, h4, h5⟩; exact ⟨h1, h2, h3, h5, h4⟩
theorem eqs142 (f : Tryz.Clo97) (xs ys : List GVal) (hx : xs.length ≤ 4611686018427387904) (hf : ∀ x ∈ xs, ∀ y, f.R (x, y) (decide (x = y))) : Tryz.m142.R (xs, ys, f) (decide (xs = ys)) := by
  rw [← U.zip_dec (fun x y : GVal => decide (x = y)) (fun a b => decide_eq_true_iff)]
  refine U.run_len (U.run_len ?_)
  show Runs (.ite _ ((xs.length : Int) != (ys.length : Int)) _ _) _
  rw [U.eq_nn]
  refine U.and_f fun h => U.run_len (U.ke_jump ?_)
  have hl := of_decide_eq_true h
  rw [← Bool.and_true ((xs.zip ys).all _)]
  refine U.ev_zip xs ys hl (fun i => Tryz.J142.s0 ys f xs xs.length i) (fun x y => decide (x = y)) true hx (U.run_f U.dec_f (U.ke_ret rfl)) ?_
  intro i h1 h2 ht hw x y hx hy hm _ r ih
  exact U.run_t ht (U.run_elemX h1 hx (U.run_elemX h2 hy (U.and_n (M := Tryz.clo97 f) (hf x hm y) fun hp => U.ke_jump (by rw [hw]; exact ih hp))))
theorem same83 : ∀ n (a b : GVal), SizeOf.sizeOf a < n → a.ok → (Tryz.n83 n).1 (a, b) (decide (a = b))
  | 0, a, b, h, _ => absurd h (Nat.not_lt_zero _)
  | n + 1, a, b, h, ha => by
    obtain ⟨h1, h2⟩ := GVal.okI ha
    obtain ⟨h3, h4⟩ := GVal.okK ha
    rw [← val_dec]
    refine U.and_t fun _ => U.and_t fun _ => U.and_t fun _ => U.and_c (m90 _ _ (len16 h4)) fun _ => ?_
    exact U.run_call _ (eqs142 ⟨83, [], fun a b => (Tryz.w83 _ _).R (a.1, a.2) b, fun a b h => (Tryz.w83 _ _).ok (a.1, a.2) b h⟩ a.Items b.Items (reach80 h2) (fun x hx y => same83 n x y (sub h hx) (h1 x hx))) (U.ke_ret rfl)
theorem m83 (a b : GVal) (ha : a.ok) : Tryz.m83.R (a, b) (decide (a = b)) := ⟨_, same83 (SizeOf.sizeOf a + 1) a b (Nat.lt_succ_self _) ha⟩
theorem val_dec2 (a b : GVal) : (a.Kind == b.Kind && (a.Num == b.Num && (strEq a.Text b.Text && (decide (a.Items.length = b.Items.length) && (decide (a.Keys.length = b.Keys.length) && ((a.Keys.zip b.Keys).all (fun q => strEq q.1 q.2) && (a.Items.zip b.Items).all (fun q => decide (q.1 = q.2)))))))) = decide (a = b) := by
  rw [← val_dec, ← U.zip_dec strEq strEq_i, ← U.zip_dec (fun x y : GVal => decide (x = y)) (fun a b => decide_eq_true_iff)]
  generalize (a.Keys.zip b.Keys).all _ = k
  generalize (a.Items.zip b.Items).all _ = i
  generalize decide (a.Items.length = b.Items.length) = l
  generalize decide (a.Keys.length = b.Keys.length) = m
  cases k <;> cases i <;> cases l <;> cases m <;> simp
theorem rsame64 : ∀ n (a b : GVal), SizeOf.sizeOf a < n → a.ok → (Tryz.n64 n).1 (a, b) (decide (a = b))
  | 0, a, b, h, _ => absurd h (Nat.not_lt_zero _)
  | n + 1, a, b, h, ha => by
    obtain ⟨h1, h2⟩ := GVal.okI ha
    obtain ⟨h3, h4⟩ := GVal.okK ha
    rw [← val_dec2]
    refine U.and_f fun _ => U.and_f fun _ => U.and_f fun _ => U.run_len (U.run_len ?_)
    rw [U.eq_nn]
    refine U.and_f fun hl => U.run_len (U.run_len ?_)
    rw [U.eq_nn]
    refine U.and_f fun hk => U.ke_jump ?_
    refine U.ev_zip a.Keys b.Keys (of_decide_eq_true hk) (fun i => Tryz.J64.s0 a b i) strEq _ (len16 h4) (U.run_len (U.run_f U.dec_f (U.ke_jump ?_))) ?_
    · rw [← Bool.and_true ((a.Items.zip b.Items).all _)]
      refine U.ev_zip a.Items b.Items (of_decide_eq_true hl) (fun i => Tryz.J64.s1 a b i) (fun x y => decide (x = y)) true (reach80 h2) (U.run_len (U.run_f U.dec_f (U.ke_ret rfl))) ?_
      intro i g1 g2 ht hw x y hx hy hm _ r ih
      exact U.run_len (U.run_t ht (U.run_elemX g1 hx (U.run_elemX g2 hy (U.and_n (M := Tryz.w64 _ _) (rsame64 n x y (sub h hm) (h1 x hm)) fun hp => U.ke_jump (by rw [hw]; exact ih hp)))))
    · intro i g1 g2 ht hw x y hx hy hm _ r ih
      exact U.run_len (U.run_t ht (U.run_elemX g1 hx (U.run_elemX g2 hy (U.and_f fun hp => U.ke_jump (by rw [hw]; exact ih hp)))))
theorem m64 (a b : GVal) (ha : a.ok) : Tryz.m64.R (a, b) (decide (a = b)) := ⟨_, rsame64 (SizeOf.sizeOf a + 1) a b (Nat.lt_succ_self _) ha⟩
end ZE
end Go.Proofs
end
noncomputable section
set_option maxRecDepth 4000
namespace Go.Proofs
open Go Go.AV
namespace ZE
open VU
attribute [local irreducible] Runs
abbrev fatOk (o : GPolicy) : Prop := o.Fatal.length ≤ 4611686018427387904
theorem pol_dec (a b : GPolicy) : (strEq a.Queue b.Queue && (a.ToStart == b.ToStart && (a.ToClose == b.ToClose && (a.Total == b.Total && (a.Beat == b.Beat && (a.First == b.First && (a.Coef == b.Coef && (a.Most == b.Most && (a.Attempts == b.Attempts && decide (a.Fatal = b.Fatal)))))))))) = decide (a = b) := by
  rw [Bool.eq_iff_iff, decide_eq_true_eq]
  simp only [Bool.and_eq_true, beq_iff_eq, strEq_i, decide_eq_true_eq]
  cases a; cases b
  simp
theorem m145 (a b : GPolicy) (ha : fatOk a) : Tryz.m145.R (a, b) (decide (a = b)) := by
  rw [← pol_dec, ← U.zip_dec strEq strEq_i]
  refine U.and_f fun _ => U.and_f fun _ => U.and_f fun _ => U.and_f fun _ => U.and_f fun _ => U.and_f fun _ => U.and_f fun _ => U.and_f fun _ => U.and_f fun _ => U.run_len (U.run_len ?_)
  rw [U.eq_nn]
  refine U.and_f fun hl => U.ke_jump ?_
  rw [← Bool.and_true ((a.Fatal.zip b.Fatal).all _)]
  refine U.ev_zip a.Fatal b.Fatal (of_decide_eq_true hl) (fun i => Tryz.J145.s0 a b i) strEq true ha (U.run_len (U.run_f U.dec_f (U.ke_ret rfl))) ?_
  intro i g1 g2 ht hw x y hx hy hm _ r ih
  exact U.run_len (U.run_t ht (U.run_elemX g1 hx (U.run_elemX g2 hy (U.and_f fun hp => U.ke_jump (by rw [hw]; exact ih hp)))))
theorem m143 (a b : GPolicy) (ha : fatOk a) : Tryz.m143.R (a, b) (decide (a = b)) := ⟨ha, rfl⟩
theorem ev_dec (a b : GEvent) : (a.ID == b.ID && (a.Kind == b.Kind && (a.Time == b.Time && (a.Seq == b.Seq && (a.Ref == b.Ref && (a.N == b.N && (a.Code == b.Code && (strEq a.Name b.Name && (strEq a.Key b.Key && (decide (a.Data = b.Data) && decide (a.Opts = b.Opts))))))))))) = decide (a = b) := by
  rw [Bool.eq_iff_iff, decide_eq_true_eq]
  simp only [Bool.and_eq_true, beq_iff_eq, strEq_i, decide_eq_true_eq]
  cases a; cases b
  simp
theorem m95 (a b : GEvent) (hd : a.Data.ok) (ho : fatOk a.Opts) : Tryz.m95.R (a, b) (decide (a = b)) := by
  rw [← ev_dec]
  refine U.and_t fun _ => U.and_t fun _ => U.and_t fun _ => U.and_t fun _ => U.and_t fun _ => U.and_t fun _ => U.and_t fun _ => U.and_t fun _ => U.and_t fun _ => U.and_c (m64 _ _ hd) fun _ => ?_
  exact U.run_call _ (m145 _ _ ho) (U.ke_ret rfl)
def vz : GVal := GVal.mk 0 0 (⟨#[]⟩ : ByteArray) [] []
theorem vz_ok : vz.ok := ⟨rfl, rfl, by decide, ⟨trivial, by decide⟩, ⟨by simp, by decide⟩, trivial⟩
theorem m80 (a b : GPolicy) (ha : fatOk a) : Tryz.m80.R (a, b) (decide (a = b)) := by
  have h := m95 (GEvent.mk 0 0 0 0 0 0 0 (⟨#[]⟩ : ByteArray) (⟨#[]⟩ : ByteArray) vz a) (GEvent.mk 0 0 0 0 0 0 0 (⟨#[]⟩ : ByteArray) (⟨#[]⟩ : ByteArray) vz b) vz_ok ha
  have e : decide (GEvent.mk 0 0 0 0 0 0 0 (⟨#[]⟩ : ByteArray) (⟨#[]⟩ : ByteArray) vz a = GEvent.mk 0 0 0 0 0 0 0 (⟨#[]⟩ : ByteArray) (⟨#[]⟩ : ByteArray) vz b) = decide (a = b) := by
    rw [Bool.eq_iff_iff, decide_eq_true_eq, decide_eq_true_eq]; simp
  rw [e] at h
  exact U.run_call _ h (U.ke_ret rfl)
structure aok (a : GAct) : Prop where
  d : a.Data.ok
  o : fatOk a.Opts
  e : a.Details.ok
theorem act_dec (a b : GAct) : (a.Seq == b.Seq && (a.Event == b.Event && (strEq a.Name b.Name && (decide (a.Data = b.Data) && (decide (a.Opts = b.Opts) && (a.State == b.State && (a.Attempt == b.Attempt && (a.Scheduled == b.Scheduled && (a.Due == b.Due && (a.Started == b.Started && (a.LastBeat == b.LastBeat && (a.Token == b.Token && (a.Cancel == b.Cancel && (decide (a.Details = b.Details) && strEq a.Failure b.Failure)))))))))))))) = decide (a = b) := by
  rw [Bool.eq_iff_iff, decide_eq_true_eq]
  simp only [Bool.and_eq_true, beq_iff_eq, strEq_i, decide_eq_true_eq]
  cases a; cases b
  simp
theorem m33 (a b : GAct) (ha : aok a) : Tryz.m33.R (a, b) (decide (a = b)) := by
  rw [← act_dec]
  refine U.and_t fun _ => U.and_t fun _ => U.and_t fun _ => U.and_c (m64 _ _ ha.d) fun _ => U.and_c (m80 _ _ ha.o) fun _ => U.and_t fun _ => U.and_t fun _ => U.and_t fun _ => U.and_t fun _ => U.and_t fun _ => U.and_t fun _ => U.and_t fun _ => U.and_t fun _ => ?_
  exact U.and_c (m64 _ _ ha.e) fun _ => U.ke_ret rfl
theorem act_dec2 (a b : GAct) : (decide (a.Data = b.Data) && (decide (a.Details = b.Details) && (decide (a.Opts = b.Opts) && (a.Seq == b.Seq && (a.Event == b.Event && (strEq a.Name b.Name && (a.State == b.State && (a.Attempt == b.Attempt && (a.Scheduled == b.Scheduled && (a.Due == b.Due && (a.Started == b.Started && (a.LastBeat == b.LastBeat && (a.Token == b.Token && (a.Cancel == b.Cancel && strEq a.Failure b.Failure)))))))))))))) = decide (a = b) := by
  rw [Bool.eq_iff_iff, decide_eq_true_eq]
  simp only [Bool.and_eq_true, beq_iff_eq, strEq_i, decide_eq_true_eq]
  cases a; cases b
  simp only [GAct.mk.injEq]
  constructor
  · rintro ⟨h1, h2, h3, h4, h5, h6, h7, h8, h9, h10, h11, h12, h13, h14, h15⟩; exact ⟨h4, h5, h6, h1, h3, h7, h8, h9, h10, h11, h12, h13, h14, h2, h15⟩
  · rintro ⟨h4, h5, h6, h1, h3, h7, h8, h9, h10, h11, h12, h13, h14, h2, h15⟩; exact ⟨h1, h2, h3, h4, h5, h6, h7, h8, h9, h10, h11, h12, h13, h14, h15⟩
theorem m85 (a b : GAct) (ha : aok a) : Tryz.m85.R (a, b) (decide (a = b)) := by
  rw [← act_dec2]
  refine U.and_n (m83 _ _ ha.d) fun _ => U.and_n (m83 _ _ ha.e) fun _ => U.and_n (m143 _ _ ha.o) fun _ => U.and_t fun _ => U.and_t fun _ => U.and_t fun _ => U.and_t fun _ => U.and_t fun _ => U.and_t fun _ => U.and_t fun _ => U.and_t fun _ => U.and_t fun _ => U.and_t fun _ => U.and_t fun _ => U.ke_ret rfl
theorem eqs84 (f : Tryz.Clo70) (xs ys : List GAct) (hx : xs.length ≤ 4611686018427387904) (hf : ∀ x ∈ xs, ∀ y, f.R (x, y) (decide (x = y))) : Tryz.m84.R (xs, ys, f) (decide (xs = ys)) := by
  rw [← U.zip_dec (fun x y : GAct => decide (x = y)) (fun a b => decide_eq_true_iff)]
  refine U.run_len (U.run_len ?_)
  show Runs (.ite _ ((xs.length : Int) != (ys.length : Int)) _ _) _
  rw [U.eq_nn]
  refine U.and_f fun h => U.run_len (U.ke_jump ?_)
  have hl := of_decide_eq_true h
  rw [← Bool.and_true ((xs.zip ys).all _)]
  refine U.ev_zip xs ys hl (fun i => Tryz.J84.s0 ys f xs xs.length i) (fun x y => decide (x = y)) true hx (U.run_f U.dec_f (U.ke_ret rfl)) ?_
  intro i h1 h2 ht hw x y hx hy hm _ r ih
  exact U.run_t ht (U.run_elemX h1 hx (U.run_elemX h2 hy (U.and_n (M := Tryz.clo70 f) (hf x hm y) fun hp => U.ke_jump (by rw [hw]; exact ih hp))))
def tEq (a b : GTimer) : Bool := (a.Seq == b.Seq) && ((a.Event == b.Event) && ((a.Due == b.Due) && true))
def kEq (a b : GKid) : Bool := (a.Seq == b.Seq) && ((a.Event == b.Event) && ((strEq a.Key b.Key) && ((strEq a.Name b.Name) && ((a.Policy == b.Policy) && ((strEq a.Run b.Run) && true)))))
def sEq (a b : GSend) : Bool := (a.Seq == b.Seq) && ((a.Event == b.Event) && ((strEq a.Key b.Key) && ((strEq a.Name b.Name) && true)))
def uEq (a b : GUpd) : Bool := (strEq a.Key b.Key) && ((a.Done == b.Done) && true)
theorem tEq_i (a b : GTimer) : tEq a b = true ↔ a = b := by unfold tEq; simp only [Bool.and_eq_true, beq_iff_eq, strEq_i, and_true]; cases a; cases b; simp
theorem kEq_i (a b : GKid) : kEq a b = true ↔ a = b := by unfold kEq; simp only [Bool.and_eq_true, beq_iff_eq, strEq_i, and_true]; cases a; cases b; simp
theorem sEq_i (a b : GSend) : sEq a b = true ↔ a = b := by unfold sEq; simp only [Bool.and_eq_true, beq_iff_eq, strEq_i, and_true]; cases a; cases b; simp
theorem uEq_i (a b : GUpd) : uEq a b = true ↔ a = b := by unfold uEq; simp only [Bool.and_eq_true, beq_iff_eq, strEq_i, and_true]; cases a; cases b; simp
theorem m86 (a b : List GTimer) (ha : a.length ≤ 4611686018427387904) : Tryz.m86.R (a, b) (decide (a = b)) := by
  rw [← U.zip_dec tEq tEq_i]
  refine U.run_len (U.run_len ?_)
  show Runs (.ite _ ((a.length : Int) != (b.length : Int)) _ _) _
  rw [U.eq_nn]
  refine U.and_f fun h => U.run_len (U.ke_jump ?_)
  have hl := of_decide_eq_true h
  rw [← Bool.and_true ((a.zip b).all _)]
  refine U.ev_zip a b hl (fun i => Tryz.J86.s0 a b a.length i) tEq true ha (U.run_f U.dec_f (U.ke_ret rfl)) ?_
  intro i h1 h2 ht hw x y hx hy _ _ r ih
  exact U.run_t ht (U.run_elemX h1 hx (U.run_elemX h2 hy (U.and_f (b := tEq x y) fun hp => U.ke_jump (by rw [hw]; exact ih hp))))
theorem m87 (a b : List GKid) (ha : a.length ≤ 4611686018427387904) : Tryz.m87.R (a, b) (decide (a = b)) := by
  rw [← U.zip_dec kEq kEq_i]
  refine U.run_len (U.run_len ?_)
  show Runs (.ite _ ((a.length : Int) != (b.length : Int)) _ _) _
  rw [U.eq_nn]
  refine U.and_f fun h => U.run_len (U.ke_jump ?_)
  have hl := of_decide_eq_true h
  rw [← Bool.and_true ((a.zip b).all _)]
  refine U.ev_zip a b hl (fun i => Tryz.J87.s0 a b a.length i) kEq true ha (U.run_f U.dec_f (U.ke_ret rfl)) ?_
  intro i h1 h2 ht hw x y hx hy _ _ r ih
  exact U.run_t ht (U.run_elemX h1 hx (U.run_elemX h2 hy (U.and_f (b := kEq x y) fun hp => U.ke_jump (by rw [hw]; exact ih hp))))
theorem m88 (a b : List GSend) (ha : a.length ≤ 4611686018427387904) : Tryz.m88.R (a, b) (decide (a = b)) := by
  rw [← U.zip_dec sEq sEq_i]
  refine U.run_len (U.run_len ?_)
  show Runs (.ite _ ((a.length : Int) != (b.length : Int)) _ _) _
  rw [U.eq_nn]
  refine U.and_f fun h => U.run_len (U.ke_jump ?_)
  have hl := of_decide_eq_true h
  rw [← Bool.and_true ((a.zip b).all _)]
  refine U.ev_zip a b hl (fun i => Tryz.J88.s0 a b a.length i) sEq true ha (U.run_f U.dec_f (U.ke_ret rfl)) ?_
  intro i h1 h2 ht hw x y hx hy _ _ r ih
  exact U.run_t ht (U.run_elemX h1 hx (U.run_elemX h2 hy (U.and_f (b := sEq x y) fun hp => U.ke_jump (by rw [hw]; exact ih hp))))
theorem m89 (a b : List GUpd) (ha : a.length ≤ 4611686018427387904) : Tryz.m89.R (a, b) (decide (a = b)) := by
  rw [← U.zip_dec uEq uEq_i]
  refine U.run_len (U.run_len ?_)
  show Runs (.ite _ ((a.length : Int) != (b.length : Int)) _ _) _
  rw [U.eq_nn]
  refine U.and_f fun h => U.run_len (U.ke_jump ?_)
  have hl := of_decide_eq_true h
  rw [← Bool.and_true ((a.zip b).all _)]
  refine U.ev_zip a b hl (fun i => Tryz.J89.s0 a b a.length i) uEq true ha (U.run_f U.dec_f (U.ke_ret rfl)) ?_
  intro i h1 h2 ht hw x y hx hy _ _ r ih
  exact U.run_t ht (U.run_elemX h1 hx (U.run_elemX h2 hy (U.and_f (b := uEq x y) fun hp => U.ke_jump (by rw [hw]; exact ih hp))))
structure pok (n : Nat) (p : GPending) : Prop where
  i : p.Input.ok
  t : p.Attrs.ok
  a : ∀ x ∈ p.Acts, aok x
  na : p.Acts.length ≤ n
  nt : p.Timers.length ≤ n
  nk : p.Kids.length ≤ n
  ns : p.Sends.length ≤ n
  nu : p.Updates.length ≤ n
  nr : p.Requests.length ≤ n
theorem m65 (n : Nat) (a b : GPending) (ha : pok n a) (hn : n ≤ 4611686018427387904) : Tryz.m65.R (a, b) (decide (a.Acts = b.Acts) && (decide (a.Timers = b.Timers) && (decide (a.Kids = b.Kids) && (decide (a.Sends = b.Sends) && decide (a.Updates = b.Updates))))) := by
  have hna := Nat.le_trans ha.na hn
  have hnt := Nat.le_trans ha.nt hn
  have hnk := Nat.le_trans ha.nk hn
  have hns := Nat.le_trans ha.ns hn
  have hnu := Nat.le_trans ha.nu hn
  have e : (decide (a.Acts = b.Acts) && (decide (a.Timers = b.Timers) && (decide (a.Kids = b.Kids) && (decide (a.Sends = b.Sends) && decide (a.Updates = b.Updates))))) =
      (decide (a.Acts.length = b.Acts.length) && (decide (a.Timers.length = b.Timers.length) && (decide (a.Kids.length = b.Kids.length) && (decide (a.Sends.length = b.Sends.length) && (decide (a.Updates.length = b.Updates.length) &&
      ((a.Acts.zip b.Acts).all (fun q => decide (q.1 = q.2)) && ((a.Timers.zip b.Timers).all (fun q => tEq q.1 q.2) && ((a.Kids.zip b.Kids).all (fun q => kEq q.1 q.2) && ((a.Sends.zip b.Sends).all (fun q => sEq q.1 q.2) && ((a.Updates.zip b.Updates).all (fun q => uEq q.1 q.2) && true)))))))))) := by
    rw [← U.zip_dec (fun x y : GAct => decide (x = y)) (fun a b => decide_eq_true_iff), ← U.zip_dec tEq tEq_i, ← U.zip_dec kEq kEq_i, ← U.zip_dec sEq sEq_i, ← U.zip_dec uEq uEq_i]
    simp only [Bool.and_true]
    ac_rfl
  rw [e]
  refine U.run_len (U.run_len ?_)
  rw [U.eq_nn]
  refine U.and_f fun h1 => U.run_len (U.run_len ?_)
  rw [U.eq_nn]
  refine U.and_f fun h2 => U.run_len (U.run_len ?_)
  rw [U.eq_nn]
  refine U.and_f fun h3 => U.run_len (U.run_len ?_)
  rw [U.eq_nn]
  refine U.and_f fun h4 => U.run_len (U.run_len ?_)
  rw [U.eq_nn]
  refine U.and_f fun h5 => U.ke_jump ?_
  refine U.ev_zip a.Acts b.Acts (of_decide_eq_true h1) (fun i => Tryz.J65.s0 a b i) (fun x y => decide (x = y)) _ hna (U.run_len (U.run_f U.dec_f (U.ke_jump ?_))) ?_
  · refine U.ev_zip a.Timers b.Timers (of_decide_eq_true h2) (fun i => Tryz.J65.s1 a b i) tEq _ hnt (U.run_len (U.run_f U.dec_f (U.ke_jump ?_))) ?_
    · refine U.ev_zip a.Kids b.Kids (of_decide_eq_true h3) (fun i => Tryz.J65.s2 a b i) kEq _ hnk (U.run_len (U.run_f U.dec_f (U.ke_jump ?_))) ?_
      · refine U.ev_zip a.Sends b.Sends (of_decide_eq_true h4) (fun i => Tryz.J65.s3 a b i) sEq _ hns (U.run_len (U.run_f U.dec_f (U.ke_jump ?_))) ?_
        · refine U.ev_zip a.Updates b.Updates (of_decide_eq_true h5) (fun i => Tryz.J65.s4 a b i) uEq true hnu (U.run_len (U.run_f U.dec_f (U.ke_ret rfl))) ?_
          intro i g1 g2 ht hw x y hx hy hm _ r ih
          exact U.run_len (U.run_t ht (U.run_elemX g1 hx (U.run_elemX g2 hy (U.and_f (b := uEq x y) fun hp => U.ke_jump (by rw [hw]; exact ih hp)))))
        · intro i g1 g2 ht hw x y hx hy hm _ r ih
          exact U.run_len (U.run_t ht (U.run_elemX g1 hx (U.run_elemX g2 hy (U.and_f (b := sEq x y) fun hp => U.ke_jump (by rw [hw]; exact ih hp)))))
      · intro i g1 g2 ht hw x y hx hy hm _ r ih
        exact U.run_len (U.run_t ht (U.run_elemX g1 hx (U.run_elemX g2 hy (U.and_f (b := kEq x y) fun hp => U.ke_jump (by rw [hw]; exact ih hp)))))
    · intro i g1 g2 ht hw x y hx hy hm _ r ih
      exact U.run_len (U.run_t ht (U.run_elemX g1 hx (U.run_elemX g2 hy (U.and_f (b := tEq x y) fun hp => U.ke_jump (by rw [hw]; exact ih hp)))))
  · intro i g1 g2 ht hw x y hx hy hm _ r ih
    exact U.run_len (U.run_t ht (U.run_elemX g1 hx (U.run_elemX g2 hy (U.and_n (m33 x y (ha.a x hm)) fun hp => U.ke_jump (by rw [hw]; exact ih hp)))))
theorem st_dec (a b : GPending) : (a.Next == b.Next && (a.Status == b.Status && (a.Task == b.Task && (a.TaskID == b.TaskID && (a.Attempt == b.Attempt && (a.Seq == b.Seq && (strEq a.Name b.Name && (decide (a.Input = b.Input) && (decide (a.Attrs = b.Attrs) && (a.Cancel == b.Cancel &&
    ((decide (a.Acts = b.Acts) && (decide (a.Timers = b.Timers) && (decide (a.Kids = b.Kids) && (decide (a.Sends = b.Sends) && decide (a.Updates = b.Updates))))) && decide (a.Requests = b.Requests)))))))))))) = decide (a = b) := by
  rw [Bool.eq_iff_iff, decide_eq_true_eq]
  simp only [Bool.and_eq_true, beq_iff_eq, strEq_i, decide_eq_true_eq]
  cases a; cases b
  simp only [GPending.mk.injEq]
  constructor
  · rintro ⟨h1, h2, h3, h4, h5, h6, h7, h8, h9, h10, ⟨h11, h12, h13, h14, h15⟩, h16⟩; exact ⟨h1, h2, h3, h4, h5, h6, h7, h8, h9, h10, h11, h12, h13, h14, h15, h16⟩
  · rintro ⟨h1, h2, h3, h4, h5, h6, h7, h8, h9, h10, h11, h12, h13, h14, h15, h16⟩; exact ⟨h1, h2, h3, h4, h5, h6, h7, h8, h9, h10, ⟨h11, h12, h13, h14, h15⟩, h16⟩
theorem m18 (n : Nat) (a b : GPending) (ha : pok n a) (hn : n ≤ 4611686018427387904) : Tryz.m18.R (a, b) (decide (a = b)) := by
  rw [← st_dec]
  refine U.and_t fun _ => U.and_t fun _ => U.and_t fun _ => U.and_t fun _ => U.and_t fun _ => U.and_t fun _ => U.and_t fun _ => U.and_c (m64 _ _ ha.i) fun _ => U.and_c (m64 _ _ ha.t) fun _ => U.and_t fun _ => U.and_c (m65 n _ _ ha hn) fun _ => ?_
  exact U.run_call _ (m66 _ _ (Nat.le_trans ha.nr hn)) (U.ke_ret rfl)
theorem m38 (n : Nat) (a b : GPending) (ha : pok n a) (hn : n ≤ 4611686018427387904) : Tryz.m38.R (a, b) (decide (a = b)) := by
  have e : decide (a = b) = (a.Next == b.Next && (a.Status == b.Status && (a.Task == b.Task && (a.TaskID == b.TaskID && (a.Attempt == b.Attempt && (a.Seq == b.Seq && (strEq a.Name b.Name && (a.Cancel == b.Cancel && (decide (a.Input = b.Input) && (decide (a.Attrs = b.Attrs) &&
    (decide (a.Acts = b.Acts) && (decide (a.Timers = b.Timers) && (decide (a.Kids = b.Kids) && (decide (a.Sends = b.Sends) && (decide (a.Updates = b.Updates) && decide (a.Requests = b.Requests)))))))))))))))) := by
    rw [← st_dec]
    ac_rfl
  rw [e]
  refine U.and_f fun _ => U.and_f fun _ => U.and_f fun _ => U.and_f fun _ => U.and_f fun _ => U.and_f fun _ => U.and_f fun _ => U.and_f fun _ => U.and_n (m83 _ _ ha.i) fun _ => U.and_n (m83 _ _ ha.t) fun _ =>
    U.and_n (eqs84 ⟨85, [], fun a b => Tryz.m85.R (a.1, a.2) b, fun a b h => Tryz.m85.ok (a.1, a.2) b h⟩ _ _ (Nat.le_trans ha.na hn) (fun x hx y => m85 x y (ha.a x hx))) fun _ =>
    U.and_c (m86 _ _ (Nat.le_trans ha.nt hn)) fun _ => U.and_c (m87 _ _ (Nat.le_trans ha.nk hn)) fun _ => U.and_c (m88 _ _ (Nat.le_trans ha.ns hn)) fun _ => U.and_c (m89 _ _ (Nat.le_trans ha.nu hn)) fun _ => ?_
  exact U.run_call _ (m90 _ _ (Nat.le_trans ha.nr hn)) (U.ke_ret rfl)
end ZE
end Go.Proofs
end
noncomputable section
set_option maxRecDepth 4000
namespace Go.Proofs
open Go Go.AV
namespace ZP
open VU ZE
attribute [local irreducible] Runs
structure aokc (a : GAct) : Prop where
  k : aok a
  f : a.Opts.Fatal.length * 16 ≤ reachBytes
theorem m69 (a : GAct) (h : aokc a) : Tryz.m69.R a a := by
  refine U.run_call _ (m117 _ h.k.d) (U.run_call _ (m117 _ h.k.e) (U.run_call _ (m130 _ h.f) (U.run_ret ?_)))
  cases a with | mk a b c d o => cases o; rfl
theorem m125 (l : List GAct) (hl : l.length * 376 ≤ 140737488355328) : Tryz.m125.R l l := by
  refine U.run_nil (fun he => U.run_t rfl (U.run_ret he.symm)) (U.run_f rfl (U.run_bld (U.run_app ?_ (U.run_ret rfl))))
  simpa using hl
theorem m126 (l : List GTimer) (hl : l.length * 24 ≤ 140737488355328) : Tryz.m126.R l l := by
  refine U.run_nil (fun he => U.run_t rfl (U.run_ret he.symm)) (U.run_f rfl (U.run_bld (U.run_app ?_ (U.run_ret rfl))))
  simpa using hl
theorem m127 (l : List GKid) (hl : l.length * 72 ≤ 140737488355328) : Tryz.m127.R l l := by
  refine U.run_nil (fun he => U.run_t rfl (U.run_ret he.symm)) (U.run_f rfl (U.run_bld (U.run_app ?_ (U.run_ret rfl))))
  simpa using hl
theorem m128 (l : List GSend) (hl : l.length * 48 ≤ 140737488355328) : Tryz.m128.R l l := by
  refine U.run_nil (fun he => U.run_t rfl (U.run_ret he.symm)) (U.run_f rfl (U.run_bld (U.run_app ?_ (U.run_ret rfl))))
  simpa using hl
theorem m129 (l : List GUpd) (hl : l.length * 24 ≤ 140737488355328) : Tryz.m129.R l l := by
  refine U.run_nil (fun he => U.run_t rfl (U.run_ret he.symm)) (U.run_f rfl (U.run_bld (U.run_app ?_ (U.run_ret rfl))))
  simpa using hl
def pick1 {α : Type} (p : α → Bool) (z : α) : List α → α × Bool
  | [] => (z, false)
  | x :: r => if p x = true then (x, true) else pick1 p z r
theorem pick1_idx {α : Type} (p : α → Bool) (z : α) : ∀ (l : List α) (k : Int), 0 ≤ k → (idxF p l k < 0 ∧ pick1 p z l = (z, false) ∧ l.any p = false) ∨ ∃ n, ∃ h : n < l.length, idxF p l k = k + n ∧ pick1 p z l = (l[n], true) ∧ p l[n] = true ∧ (∀ m, ∀ (hm : m < l.length), m < n → p l[m] = false)
  | [], k, _ => .inl ⟨by simp [idxF], rfl, rfl⟩
  | x :: r, k, hk => by
    by_cases hx : p x = true
    · exact .inr ⟨0, by simp, by simp [idxF, hx], by simp [pick1, hx], hx, fun m _ hm => by omega⟩
    · rcases pick1_idx p z r (k + 1) (by omega) with ⟨h1, h2, h3⟩ | ⟨n, hn, h1, h2, h3, h4⟩
      · exact .inl ⟨by simp [idxF, hx, h1], by simp [pick1, hx, h2], by simp [hx, h3]⟩
      · refine .inr ⟨n + 1, by simp; omega, by simp only [idxF, if_neg hx, h1]; omega, by simp [pick1, hx, h2], h3, fun m hm hmn => ?_⟩
        cases m with
        | zero => simpa using hx
        | succ m => exact h4 m (by simpa using hm) (by omega)
theorem pick1_mem {α : Type} (p : α → Bool) (z : α) (l : List α) : (pick1 p z l).1 ∈ l ∨ (pick1 p z l).1 = z := by
  rcases pick1_idx p z l 0 (by decide) with ⟨_, h, _⟩ | ⟨n, hn, _, h, _⟩
  · rw [h]; exact .inr rfl
  · rw [h]; exact .inl (List.getElem_mem _)
theorem ixA (s : List GAct) (f : Tryz.Clo100) (p : GAct → Bool) (hp : ∀ x ∈ s, f.R x (p x)) (hl : s.length ≤ 4611686018427387904) : Tryz.m77.R (s, f) (idxF p s 0) := by
  refine U.run_len (U.run_jump ?_)
  show Ev _ _ _
  refine (U.ev_for s (fun i (k : Nat) => Tryz.J77.s0 f s s.length i) (fun i k => k = i) (fun l k => idxF p l k) hl ?_ ?_ 0 rfl :)
  · intro k _; exact U.run_f U.dec_f (U.run_ret rfl)
  · intro i hi k hk hw ht x r hx hm y hy ih
    refine U.run_t ht (U.run_elemX hi hx (U.run_call _ (hp _ hm) ?_))
    refine U.run_ite (fun hb => U.run_ret ?_) (fun hb => U.run_jump ?_)
    · show (i : Int) = y
      rw [hy, idxF, if_pos hb, hk]
    · show Ev _ _ _
      rw [hw]; refine ih (i + 1) rfl ?_
      rw [hy, idxF, if_neg (by rw [hb]; decide), hk]; rfl
theorem pick67 (s : List GAct) (f : Tryz.Clo100) (p : GAct → Bool) (hp : ∀ x ∈ s, f.R x (p x)) (hl : s.length ≤ 4611686018427387904) : Tryz.m67.R (s, f) (pick1 p (GAct.mk 0 0 (⟨#[]⟩ : ByteArray) vz (GPolicy.mk (⟨#[]⟩ : ByteArray) 0 0 0 0 0 0 0 0 []) 0 0 0 0 0 0 0 false vz (⟨#[]⟩ : ByteArray)) s) := by
  refine U.run_call _ (ixA s f p hp hl) ?_
  rcases pick1_idx p (GAct.mk 0 0 (⟨#[]⟩ : ByteArray) vz (GPolicy.mk (⟨#[]⟩ : ByteArray) 0 0 0 0 0 0 0 0 []) 0 0 0 0 0 0 0 false vz (⟨#[]⟩ : ByteArray)) s 0 (by decide) with ⟨h1, h2, _⟩ | ⟨n, hn, h1, h2, _⟩
  · rw [h2]
    exact U.run_f (decide_eq_false (by omega)) (U.run_ret rfl)
  · have h0 : idxF p s 0 = (n : Int) := by rw [h1]; simp
    rw [h2, h0]
    exact U.run_t (decide_eq_true (by omega)) (U.run_elemX hn rfl (U.run_ret rfl))
theorem ixT (s : List GTimer) (f : Tryz.Clo103) (p : GTimer → Bool) (hp : ∀ x ∈ s, f.R x (p x)) (hl : s.length ≤ 4611686018427387904) : Tryz.m138.R (s, f) (idxF p s 0) := by
  refine U.run_len (U.run_jump ?_)
  show Ev _ _ _
  refine (U.ev_for s (fun i (k : Nat) => Tryz.J138.s0 f s s.length i) (fun i k => k = i) (fun l k => idxF p l k) hl ?_ ?_ 0 rfl :)
  · intro k _; exact U.run_f U.dec_f (U.run_ret rfl)
  · intro i hi k hk hw ht x r hx hm y hy ih
    refine U.run_t ht (U.run_elemX hi hx (U.run_call _ (hp _ hm) ?_))
    refine U.run_ite (fun hb => U.run_ret ?_) (fun hb => U.run_jump ?_)
    · show (i : Int) = y
      rw [hy, idxF, if_pos hb, hk]
    · show Ev _ _ _
      rw [hw]; refine ih (i + 1) rfl ?_
      rw [hy, idxF, if_neg (by rw [hb]; decide), hk]; rfl
theorem pick70 (s : List GTimer) (f : Tryz.Clo103) (p : GTimer → Bool) (hp : ∀ x ∈ s, f.R x (p x)) (hl : s.length ≤ 4611686018427387904) : Tryz.m70.R (s, f) (pick1 p (GTimer.mk 0 0 0) s) := by
  refine U.run_call _ (ixT s f p hp hl) ?_
  rcases pick1_idx p (GTimer.mk 0 0 0) s 0 (by decide) with ⟨h1, h2, _⟩ | ⟨n, hn, h1, h2, _⟩
  · rw [h2]
    exact U.run_f (decide_eq_false (by omega)) (U.run_ret rfl)
  · have h0 : idxF p s 0 = (n : Int) := by rw [h1]; simp
    rw [h2, h0]
    exact U.run_t (decide_eq_true (by omega)) (U.run_elemX hn rfl (U.run_ret rfl))
theorem ixK (s : List GKid) (f : Tryz.Clo105) (p : GKid → Bool) (hp : ∀ x ∈ s, f.R x (p x)) (hl : s.length ≤ 4611686018427387904) : Tryz.m139.R (s, f) (idxF p s 0) := by
  refine U.run_len (U.run_jump ?_)
  show Ev _ _ _
  refine (U.ev_for s (fun i (k : Nat) => Tryz.J139.s0 f s s.length i) (fun i k => k = i) (fun l k => idxF p l k) hl ?_ ?_ 0 rfl :)
  · intro k _; exact U.run_f U.dec_f (U.run_ret rfl)
  · intro i hi k hk hw ht x r hx hm y hy ih
    refine U.run_t ht (U.run_elemX hi hx (U.run_call _ (hp _ hm) ?_))
    refine U.run_ite (fun hb => U.run_ret ?_) (fun hb => U.run_jump ?_)
    · show (i : Int) = y
      rw [hy, idxF, if_pos hb, hk]
    · show Ev _ _ _
      rw [hw]; refine ih (i + 1) rfl ?_
      rw [hy, idxF, if_neg (by rw [hb]; decide), hk]; rfl
theorem pick72 (s : List GKid) (f : Tryz.Clo105) (p : GKid → Bool) (hp : ∀ x ∈ s, f.R x (p x)) (hl : s.length ≤ 4611686018427387904) : Tryz.m72.R (s, f) (pick1 p (GKid.mk 0 0 (⟨#[]⟩ : ByteArray) (⟨#[]⟩ : ByteArray) 0 (⟨#[]⟩ : ByteArray)) s) := by
  refine U.run_call _ (ixK s f p hp hl) ?_
  rcases pick1_idx p (GKid.mk 0 0 (⟨#[]⟩ : ByteArray) (⟨#[]⟩ : ByteArray) 0 (⟨#[]⟩ : ByteArray)) s 0 (by decide) with ⟨h1, h2, _⟩ | ⟨n, hn, h1, h2, _⟩
  · rw [h2]
    exact U.run_f (decide_eq_false (by omega)) (U.run_ret rfl)
  · have h0 : idxF p s 0 = (n : Int) := by rw [h1]; simp
    rw [h2, h0]
    exact U.run_t (decide_eq_true (by omega)) (U.run_elemX hn rfl (U.run_ret rfl))
theorem ixS (s : List GSend) (f : Tryz.Clo107) (p : GSend → Bool) (hp : ∀ x ∈ s, f.R x (p x)) (hl : s.length ≤ 4611686018427387904) : Tryz.m140.R (s, f) (idxF p s 0) := by
  refine U.run_len (U.run_jump ?_)
  show Ev _ _ _
  refine (U.ev_for s (fun i (k : Nat) => Tryz.J140.s0 f s s.length i) (fun i k => k = i) (fun l k => idxF p l k) hl ?_ ?_ 0 rfl :)
  · intro k _; exact U.run_f U.dec_f (U.run_ret rfl)
  · intro i hi k hk hw ht x r hx hm y hy ih
    refine U.run_t ht (U.run_elemX hi hx (U.run_call _ (hp _ hm) ?_))
    refine U.run_ite (fun hb => U.run_ret ?_) (fun hb => U.run_jump ?_)
    · show (i : Int) = y
      rw [hy, idxF, if_pos hb, hk]
    · show Ev _ _ _
      rw [hw]; refine ih (i + 1) rfl ?_
      rw [hy, idxF, if_neg (by rw [hb]; decide), hk]; rfl
theorem pick74 (s : List GSend) (f : Tryz.Clo107) (p : GSend → Bool) (hp : ∀ x ∈ s, f.R x (p x)) (hl : s.length ≤ 4611686018427387904) : Tryz.m74.R (s, f) (pick1 p (GSend.mk 0 0 (⟨#[]⟩ : ByteArray) (⟨#[]⟩ : ByteArray)) s) := by
  refine U.run_call _ (ixS s f p hp hl) ?_
  rcases pick1_idx p (GSend.mk 0 0 (⟨#[]⟩ : ByteArray) (⟨#[]⟩ : ByteArray)) s 0 (by decide) with ⟨h1, h2, _⟩ | ⟨n, hn, h1, h2, _⟩
  · rw [h2]
    exact U.run_f (decide_eq_false (by omega)) (U.run_ret rfl)
  · have h0 : idxF p s 0 = (n : Int) := by rw [h1]; simp
    rw [h2, h0]
    exact U.run_t (decide_eq_true (by omega)) (U.run_elemX hn rfl (U.run_ret rfl))
def az : GAct := GAct.mk 0 0 (⟨#[]⟩ : ByteArray) vz (GPolicy.mk (⟨#[]⟩ : ByteArray) 0 0 0 0 0 0 0 0 []) 0 0 0 0 0 0 0 false vz (⟨#[]⟩ : ByteArray)
theorem az_ok : aokc az := ⟨⟨vz_ok, by decide, vz_ok⟩, by decide⟩
def tz : GTimer := GTimer.mk 0 0 0
def kz : GKid := GKid.mk 0 0 (⟨#[]⟩ : ByteArray) (⟨#[]⟩ : ByteArray) 0 (⟨#[]⟩ : ByteArray)
def sz : GSend := GSend.mk 0 0 (⟨#[]⟩ : ByteArray) (⟨#[]⟩ : ByteArray)
def pz : GPending := GPending.mk 0 0 0 0 0 0 (⟨#[]⟩ : ByteArray) vz vz false [] [] [] [] [] []
structure pokc (n : Nat) (p : GPending) : Prop where
  k : pok n p
  f : ∀ x ∈ p.Acts, aokc x
  n : n ≤ 100000
theorem big {n m : Nat} (h : n ≤ m) (hm : m ≤ 100000) : n ≤ 4611686018427387904 := by omega
def actOf (p : GPending) (q : Int) : GAct × Bool := pick1 (fun a => a.Seq == q) az p.Acts
def timerOf (p : GPending) (q : Int) : GTimer × Bool := pick1 (fun a => a.Seq == q) tz p.Timers
def kidOf (p : GPending) (q : Int) : GKid × Bool := pick1 (fun a => a.Seq == q) kz p.Kids
def sendOf (p : GPending) (q : Int) : GSend × Bool := pick1 (fun a => a.Seq == q) sz p.Sends
theorem actOf_ok {n : Nat} {p : GPending} (h : pokc n p) (q : Int) : aokc (actOf p q).1 := by
  rcases pick1_mem (fun a : GAct => a.Seq == q) az p.Acts with h2 | h2
  · exact h.f _ h2
  · unfold actOf; rw [h2]; exact az_ok
theorem m20 (n : Nat) (p : GPending) (q : Int) (h : pokc n p) : Tryz.m20.R (p, q) (actOf p q) := by
  refine U.run_call _ (pick67 _ _ _ (fun x _ => U.run_ret rfl) (big h.k.na h.n)) (U.run_call _ (m69 _ (actOf_ok h q)) (U.run_ret rfl))
theorem m21 (n : Nat) (p : GPending) (q : Int) (h : pokc n p) : Tryz.m21.R (p, q) (timerOf p q) := U.run_call _ (pick70 _ _ _ (fun x _ => U.run_ret rfl) (big h.k.nt h.n)) (U.run_ret rfl)
theorem m22 (n : Nat) (p : GPending) (q : Int) (h : pokc n p) : Tryz.m22.R (p, q) (kidOf p q) := U.run_call _ (pick72 _ _ _ (fun x _ => U.run_ret rfl) (big h.k.nk h.n)) (U.run_ret rfl)
theorem m23 (n : Nat) (p : GPending) (q : Int) (h : pokc n p) : Tryz.m23.R (p, q) (sendOf p q) := U.run_call _ (pick74 _ _ _ (fun x _ => U.run_ret rfl) (big h.k.ns h.n)) (U.run_ret rfl)
theorem ix141 (l : List ByteArray) (v : ByteArray) (hl : l.length ≤ 4611686018427387904) : Tryz.m141.R (l, v) (idxF (fun a => strEq v a) l 0) := by
  refine U.run_len (U.run_jump ?_)
  show Ev _ _ _
  refine (U.ev_for l (fun i (k : Nat) => Tryz.J141.s0 l v l.length i) (fun i k => k = i) (fun l k => idxF (fun a => strEq v a) l k) hl ?_ ?_ 0 rfl :)
  · intro k _; exact U.run_f U.dec_f (U.run_ret rfl)
  · intro i hi k hk hw ht x r hx hm y hy ih
    refine U.run_t ht (U.run_elemX hi hx (U.run_ite (fun hb => U.run_ret ?_) (fun hb => U.run_jump ?_)))
    · show (i : Int) = y
      rw [hy, idxF, if_pos hb, hk]
    · show Ev _ _ _
      rw [hw]; refine ih (i + 1) rfl ?_
      rw [hy, idxF, if_neg (by rw [hb]; decide), hk]; rfl
def knows (p : GPending) (id : ByteArray) : Bool := p.Requests.any fun a => strEq id a
theorem m81 (l : List ByteArray) (v : ByteArray) (hl : l.length ≤ 4611686018427387904) : Tryz.m81.R (l, v) (l.any fun a => strEq v a) := U.run_call _ (ix141 l v hl) (U.run_ret (idxF_any _ _ 0 (by decide)))
theorem m34 (n : Nat) (p : GPending) (id : ByteArray) (h : pokc n p) : Tryz.m34.R (p, id) (knows p id) := U.run_call _ (m81 _ _ (big h.k.nr h.n)) (U.run_ret rfl)
theorem m62 (n : Nat) (p : GPending) (h : pokc n p) : Tryz.m62.R p p := by
  have hr := reach_eq
  have h1 := h.k.na; have h2 := h.k.nt; have h3 := h.k.nk; have h4 := h.k.ns; have h5 := h.k.nu; have h6 := h.k.nr; have h7 := h.n
  refine U.run_call _ (m117 _ h.k.i) (U.run_call _ (m117 _ h.k.t) (U.run_call _ (m125 _ (by omega)) (U.run_len (U.run_jump ?_))))
  show Ev _ _ _
  refine U.ev_upd p.Acts id (fun i zs => Tryz.J62.s0 (GPending.mk p.Next p.Status p.Task p.TaskID p.Attempt p.Seq p.Name p.Input p.Attrs p.Cancel zs p.Timers p.Kids p.Sends p.Updates p.Requests) pz p.Acts.length i) p (big h.k.na h.n) ?_ ?_
  · rw [List.map_id]
    refine U.run_f U.dec_f (U.run_call _ (m126 _ (by show p.Timers.length * _ ≤ _; omega)) (U.run_call _ (m127 _ (by show p.Kids.length * _ ≤ _; omega)) (U.run_call _ (m128 _ (by show p.Sends.length * _ ≤ _; omega)) (U.run_call _ (m129 _ (by show p.Updates.length * _ ≤ _; omega)) (U.run_call _ (m130 _ (by show p.Requests.length * 16 ≤ _; omega)) (U.run_ret rfl))))))
  · intro i hi zs hz ht hw x hzi hx hm ih
    refine U.run_t ht (U.run_idx hzi (U.run_eget hzi hx (U.run_call (M := (Tryz.m69).weak) _ (m69 x (h.f x hm)) (U.run_idx hzi (U.run_eset hzi (U.run_jump ?_))))))
    show Ev _ _ _
    rw [hw]; exact ih
def sched (a : GAct) : GAct := GAct.mk a.Seq a.Event a.Name a.Data a.Opts 1 1 a.Scheduled a.Scheduled 0 0 0 a.Cancel vz (⟨#[]⟩ : ByteArray)
def withActs (p : GPending) (l : List GAct) : GPending := GPending.mk p.Next p.Status p.Task p.TaskID p.Attempt p.Seq p.Name p.Input p.Attrs p.Cancel l p.Timers p.Kids p.Sends p.Updates p.Requests
def bare (p : GPending) : GPending := withActs p (p.Acts.map sched)
theorem m24 (n : Nat) (p : GPending) (h : pokc n p) : Tryz.m24.R p (bare p) := by
  refine U.run_call _ (m62 n p h) (U.run_len (U.run_jump ?_))
  show Ev _ _ _
  refine U.ev_upd p.Acts sched (fun i zs => Tryz.J24.s0 pz (withActs p zs) p.Acts.length i) (bare p) (big h.k.na h.n) (U.run_f U.dec_f (U.run_ret rfl)) ?_
  intro i hi zs hz ht hw x hzi hx hm ih
  refine U.run_t ht (U.run_idx hzi (U.run_eget hzi hx (U.run_idx hzi (U.run_eset hzi (U.run_jump ?_)))))
  show Ev _ _ _
  rw [hw]; exact ih
def repl1 (p : GAct → Bool) (a : GAct) : List GAct → List GAct
  | [] => []
  | x :: r => if p x = true then a :: r else x :: repl1 p a r
theorem repl1_idx (p : GAct → Bool) (a : GAct) : ∀ (l : List GAct) (n : Nat) (h : n < l.length), p l[n] = true → (∀ m, ∀ (hm : m < l.length), m < n → p l[m] = false) → l.modify n (fun _ => a) = repl1 p a l
  | [], n, h, _, _ => by simp at h
  | x :: r, 0, h, hp, _ => by simp only [List.getElem_cons_zero] at hp; simp [repl1, hp]
  | x :: r, n + 1, h, hp, hm => by
    have h0 := hm 0 (by simp) (by omega)
    simp only [List.getElem_cons_zero] at h0
    have := repl1_idx p a r n (by simpa using h) (by simpa using hp) (fun m hm' hmn => hm (m + 1) (by simpa using hm') (by omega))
    simp only [List.modify_succ_cons, repl1, h0, Bool.false_eq_true, if_false, this]
def setAct (p : GPending) (a : GAct) : GPending × Bool := if (p.Acts.any fun x => x.Seq == a.Seq) = true then (withActs p (repl1 (fun x => x.Seq == a.Seq) a p.Acts), true) else (pz, false)
theorem m26 (n : Nat) (p : GPending) (a : GAct) (h : pokc n p) (ha : aokc a) : Tryz.m26.R (p, a) (setAct p a) := by
  refine U.run_call _ (ixA p.Acts _ (fun x => x.Seq == a.Seq) (fun x _ => U.run_ret rfl) (big h.k.na h.n)) ?_
  rcases pick1_idx (fun x : GAct => x.Seq == a.Seq) az p.Acts 0 (by decide) with ⟨h1, _, h2⟩ | ⟨m, hm, h1, _, h3, h4⟩
  · refine U.run_t (decide_eq_true h1) (U.run_ret ?_)
    show _ = _
    unfold setAct; rw [h2]; rfl
  · have h0 : idxF (fun x : GAct => x.Seq == a.Seq) p.Acts 0 = (m : Int) := by rw [h1]; simp
    rw [h0]
    refine U.run_f (decide_eq_false (by omega)) (U.run_call _ (m62 n p h) (U.run_call (M := (Tryz.m69).weak) _ (m69 a ha) (U.run_idx hm (U.run_eset hm (U.run_ret ?_)))))
    show _ = _
    have h5 : (p.Acts.any fun x => x.Seq == a.Seq) = true := List.any_eq_true.2 ⟨_, List.getElem_mem hm, h3⟩
    unfold setAct; rw [h5, if_pos rfl, ← repl1_idx _ a p.Acts m hm h3 h4]
    rfl
end ZP
end Go.Proofs
end
noncomputable section
set_option maxRecDepth 4000
namespace Go.Proofs
open Go Go.AV
namespace ZR
open VU ZE ZP
attribute [local irreducible] Runs
def rng (n l h : Int) : Bool := decide (l ≤ n) && decide (n ≤ h)
theorem m114 (n l h : Int) : Tryz.m114.R (n, l, h) (rng n l h) := U.and_t fun _ => U.ke_ret rfl
theorem m166 (n l h : Int) : Tryz.m166.R (n, l, h) (rng n l h) := U.and_t fun _ => U.ke_ret rfl
def okc (c : Int) : Bool := !decide (c < 33) && (!decide (126 < c) && (!(c == 47) && !(c == 34)))
def ident (s : ByteArray) : Bool := (bytesL s).all okc && (decide (1 ≤ (s.size : Int)) && decide ((s.size : Int) ≤ 64))
theorem bytesL_at (s : ByteArray) (i : Nat) (h : i < (bytesL s).length) : byteAt s i = (bytesL s)[i] := by
  have h' : i < s.data.toList.length := by rwa [bytesL, List.length_map] at h
  have e : (bytesL s)[i] = ((s.data.toList[i].toNat : Nat) : Int) := List.getElem_map ..
  rw [e]
  unfold byteAt
  rw [List.getD_eq_getElem?_getD, List.getElem?_eq_getElem h']; rfl
theorem m169 (s : ByteArray) (hs : s.size ≤ 4611686018427387904) : Tryz.m169.R s (ident s) := by
  have hl : (bytesL s).length ≤ 4611686018427387904 := by rw [bytesL_length]; exact hs
  refine U.ke_jump ?_
  refine U.ev_all (bytesL s) (fun i => Tryz.J169.s0 s i) okc _ hl ?_ ?_
  · exact U.run_f (by rw [bytesL_length]; exact U.dec_f) (U.and_t fun _ => U.ke_ret rfl)
  · intro i hi ht hw x hx hm r ih
    have hbx : byteAt s ((i : Int)).toNat = x := by rw [Int.toNat_natCast, bytesL_at s i hi, hx]
    have hi' : i < s.size := by rwa [bytesL_length] at hi
    rw [bytesL_length] at ht
    have e : (okc x && r) = (!decide (byteAt s ((i : Int)).toNat < 33) && (!decide (126 < byteAt s ((i : Int)).toNat) && (!(byteAt s ((i : Int)).toNat == 47) && (!(byteAt s ((i : Int)).toNat == 34) && r)))) := by
      rw [hbx]; unfold okc; simp only [Bool.and_assoc]
    rw [e]
    refine U.run_t ht (U.run_byte hi' ?_)
    refine U.nor_f fun h1 => U.run_byte hi' (U.nor_f fun h2 => U.run_byte hi' (U.nor_f fun h3 => U.run_byte hi' (U.nor_f fun h4 => U.ke_jump ?_)))
    rw [hw]; exact ih (by unfold okc; rw [← hbx]; rw [h1, h2, h3, h4]; rfl)
theorem m160 (s : ByteArray) (hs : s.size ≤ 4611686018427387904) : Tryz.m160.R s (ident s) := by
  have e : ident s = (!decide ((s.size : Int) < 1) && (!decide (64 < (s.size : Int)) && ((bytesL s).all okc && true))) := by
    unfold ident
    rw [Bool.eq_iff_iff]
    simp only [Bool.and_eq_true, decide_eq_true_eq, Bool.not_eq_true', decide_eq_false_iff_not, Bool.and_true]
    constructor
    · rintro ⟨h1, h2, h3⟩; exact ⟨by omega, by omega, h1⟩
    · rintro ⟨h1, h2, h3⟩; exact ⟨h3, by omega, by omega⟩
  rw [e]
  have hl : (bytesL s).length ≤ 4611686018427387904 := by rw [bytesL_length]; exact hs
  refine U.nor_f fun _ => U.nor_f fun _ => U.ke_jump ?_
  refine U.ev_all (bytesL s) (fun i => Tryz.J160.s0 s i) okc _ hl ?_ ?_
  · exact U.run_f (by rw [bytesL_length]; exact U.dec_f) (U.ke_ret rfl)
  · intro i hi ht hw x hx hm r ih
    have hbx : byteAt s ((i : Int)).toNat = x := by rw [Int.toNat_natCast, bytesL_at s i hi, hx]
    have hi' : i < s.size := by rwa [bytesL_length] at hi
    rw [bytesL_length] at ht
    have e : (okc x && r) = (!decide (byteAt s ((i : Int)).toNat < 33) && (!decide (126 < byteAt s ((i : Int)).toNat) && (!(byteAt s ((i : Int)).toNat == 47) && (!(byteAt s ((i : Int)).toNat == 34) && r)))) := by
      rw [hbx]; unfold okc; simp only [Bool.and_assoc]
    rw [e]
    refine U.run_t ht (U.run_byte hi' ?_)
    refine U.nor_f fun h1 => U.run_byte hi' (U.nor_f fun h2 => U.run_byte hi' (U.nor_f fun h3 => U.run_byte hi' (U.nor_f fun h4 => U.ke_jump ?_)))
    rw [hw]; exact ih (by unfold okc; rw [← hbx]; rw [h1, h2, h3, h4]; rfl)
def short (s : ByteArray) : Bool := !decide (4096 < (s.size : Int))
def polR (o : GPolicy) : Bool := [o.ToStart, o.ToClose, o.Total, o.Beat, o.First, o.Most].all (fun n => rng n 0 1099511627776) && (o.Fatal.all short && ((strEq o.Queue ⟨#[]⟩ || RT.nameOk o.Queue) && (rng o.Coef 0 10000 && (rng o.Attempts 0 1000 && decide ((o.Fatal.length : Int) ≤ 64)))))
theorem m161 (o : GPolicy) (ho : fatOk o) : Tryz.m161.R o (polR o) := by
  unfold polR
  refine U.run_bld (U.ke_jump ?_)
  refine U.ev_all [o.ToStart, o.ToClose, o.Total, o.Beat, o.First, o.Most] (fun i => Tryz.J161.s0 o [o.ToStart, o.ToClose, o.Total, o.Beat, o.First, o.Most] i) (fun n => rng n 0 1099511627776) _ (by simp) (U.run_len (U.run_f U.dec_f (U.ke_jump ?_))) ?_
  · refine U.ev_all o.Fatal (fun i => Tryz.J161.s1 o i) short _ ho (U.run_len (U.run_f U.dec_f ?_)) ?_
    · cases hq : strEq o.Queue ⟨#[]⟩
      · refine U.run_f rfl ?_
        rw [Bool.false_or]
        refine U.and_c (m159 _) fun _ => U.and_c (m114 _ _ _) fun _ => U.and_c (m114 _ _ _) fun _ => U.run_len (U.ke_ret rfl)
      · refine U.run_t rfl ?_
        rw [Bool.true_or, Bool.true_and]
        refine U.and_c (m114 _ _ _) fun _ => U.and_c (m114 _ _ _) fun _ => U.run_len (U.ke_ret rfl)
    · intro i hi ht hw x hx hm r ih
      exact U.run_len (U.run_t ht (U.run_elemX hi hx (U.nor_f fun hp => U.ke_jump (by rw [hw]; exact ih (by unfold short; rw [hp]; rfl)))))
  · intro i hi ht hw x hx hm r ih
    exact U.run_len (U.run_t ht (U.run_idx hi (U.run_eget hi hx (U.and_n (m114 _ _ _) fun hp => U.ke_jump (by rw [hw]; exact ih hp)))))
def sig (x : GVal) : Bool := (x.Kind == 4) && (((x.Items.length : Int) == 2) && (((x.Items.getD 0 default).Kind == 3) && RT.nameOk (x.Items.getD 0 default).Text))
def inp (v : GVal) : Bool := (v.Kind == 4) && (((v.Items.length : Int) == 2) && (((v.Items.getD 1 default).Kind == 4) && (v.Items.getD 1 default).Items.all sig))
theorem two0 {x : GVal} (h : ((x.Items.length : Int) == 2) = true) : 0 ≤ (0 : Int) ∧ (0 : Int).toNat < x.Items.length := by have := eq_of_beq h; omega
theorem two1 {x : GVal} (h : ((x.Items.length : Int) == 2) = true) : 0 ≤ (1 : Int) ∧ (1 : Int).toNat < x.Items.length := by have := eq_of_beq h; omega
theorem at1_ok {v : GVal} (h : ((v.Items.length : Int) == 2) = true) (hv : v.ok) : (v.Items.getD 1 default).ok := by
  have h1 : 1 < v.Items.length := (two1 h).2
  rw [getD_lt _ _ _ h1]
  exact (GVal.okI hv).1 _ (List.getElem_mem _)
theorem m162 (v : GVal) (hv : v.ok) : Tryz.m162.R v (inp v) := by
  unfold inp
  refine U.and_f fun h1 => U.run_len (U.and_f fun h2 => U.run_elemD (two1 h2) (U.and_f fun h3 => U.ke_jump ?_))
  rw [← Bool.and_true (List.all _ _)]
  refine U.ev_all (v.Items.getD 1 default).Items (fun i => Tryz.J162.s0 v i) sig true (reach80 (GVal.okI (at1_ok h2 hv)).2) (U.run_elemD (two1 h2) (U.run_len (U.run_f U.dec_f (U.ke_ret rfl)))) ?_
  intro i hi ht hw x hx hm r ih
  refine U.run_elemD (two1 h2) (U.run_len (U.run_t ht (U.run_elemD (two1 h2) (U.run_elemX hi hx ?_))))
  unfold sig
  simp only [Bool.and_assoc]
  refine U.and_f fun h4 => U.run_len (U.and_f fun h5 => U.run_elemD (two0 h5) (U.and_f fun h6 => U.run_elemD (two0 h5) (U.and_n (m159 _) fun h7 => U.ke_jump (by rw [hw]; exact ih (by have h6' : ((x.Items.getD 0 default).Kind == 3) = true := h6; unfold sig; simp only [h4, h5, h6', h7, Bool.and_true])))))
theorem m170 (v : GVal) (hv : v.ok) : Tryz.m170.R v (right v && inp v) := by
  unfold inp
  refine U.and_n (m158 v hv) fun _ => U.and_f fun h1 => U.run_len (U.and_f fun h2 => U.run_elemD (two1 h2) (U.and_f fun h3 => U.run_elemD (two1 h2) (U.ke_jump ?_)))
  rw [← Bool.and_true (List.all _ _)]
  refine U.ev_all (v.Items.getD 1 default).Items (fun i => Tryz.J170.s0 (v.Items.getD 1 default).Items i) sig true (reach80 (GVal.okI (at1_ok h2 hv)).2) (U.run_len (U.run_f U.dec_f (U.ke_ret rfl))) ?_
  intro i hi ht hw x hx hm r ih
  refine U.run_len (U.run_t ht (U.run_elemX hi hx ?_))
  unfold sig
  simp only [Bool.and_assoc]
  refine U.and_f fun h4 => U.run_elemX hi hx (U.run_len (U.and_f fun h5 => U.run_elemX hi hx (U.run_elemD (two0 h5) (U.and_f fun h6 => U.run_elemX hi hx (U.run_elemD (two0 h5) (U.and_n (m159 _) fun h7 => U.ke_jump (by rw [hw]; exact ih (by have h6' : ((x.Items.getD 0 default).Kind == 3) = true := h6; unfold sig; simp only [h4, h5, h6', h7, Bool.and_true]))))))))
def cmds : List Int := [7, 12, 14, 16, 19, 23, 18, 27, 28, 29, 30, 31, 32, 35]
def ixOf (k : Int) : List Int → Int → Int
  | [], _ => 0
  | x :: r, i => if (x == k) = true then IntKind.i64.wrap (i + 1) else ixOf k r (i + 1)
def cmdOf (k : Int) : Int := ixOf k cmds 0
theorem m113 (k : Int) : Tryz.m113.R k (cmdOf k) := by
  refine U.run_call cmds (U.run_bld (U.run_ret rfl)) (U.ke_jump ?_)
  refine (U.ev_for cmds (fun i (_ : Nat) => Tryz.J113.s0 k cmds i) (fun i n => n = i) (fun r n => ixOf k r n) (by decide) ?_ ?_ 0 rfl :)
  · intro n _; exact U.run_len (U.run_f U.dec_f (U.ke_ret rfl))
  · intro i hi n hn hw ht x r hx hm y hy ih
    rw [hy]
    refine U.run_len (U.run_t ht (U.run_idx hi (U.run_eget hi hx ?_)))
    unfold ixOf
    refine U.ite_if (fun _ => U.ke_ret (by rw [hn])) (fun _ => U.ke_jump ?_)
    rw [hw]; exact ih (i + 1) rfl (by rw [hn]; rfl)
theorem m112 (k : Int) : Tryz.m112.R k (decide (0 < cmdOf k)) := U.run_call _ (m113 k) (U.ke_ret rfl)
end ZR
end Go.Proofs
end
noncomputable section
set_option maxRecDepth 4000
namespace Go.Proofs
open Go Go.AV
namespace ZR
open VU ZE ZP
attribute [local irreducible] Runs
def dg (n : Int) : Int := IntKind.u8.wrap (IntKind.i64.wrap (48 + (IntKind.i64.wrap (0 - (Int.tmod n 10)))))
def ds : Nat → Int → ByteArray
  | 0, n => strOfNums [dg n]
  | k + 1, n => if decide ((-10) < n) = true then strOfNums [dg n] else ds k (IntKind.i64.wrap (Int.tdiv n 10)) ++ strOfNums [dg n]
theorem one_size (z : Int) : (strOfNums [z]).size = 1 := rfl
theorem ds_size : ∀ k n, (ds k n).size ≤ k + 1
  | 0, n => by show (strOfNums [dg n]).size ≤ 1; rw [one_size]; exact Nat.le_refl _
  | k + 1, n => by
    unfold ds
    split
    · rw [one_size]; omega
    · rw [ByteArray.size_append, one_size]; have := ds_size k (IntKind.i64.wrap (Int.tdiv n 10)); omega
theorem tdiv10 {n : Int} (h : n ≤ 0) : Int.tdiv n 10 = -((-n) / 10) := by
  obtain ⟨m, rfl⟩ : ∃ m : Int, n = -m := ⟨-n, by omega⟩
  rw [Int.neg_tdiv, Int.neg_neg, Int.tdiv_eq_ediv_of_nonneg (by omega)]
theorem n257 : ∀ (k : Nat) (n : Int), k ≤ 30 → -9223372036854775808 ≤ n → n ≤ 0 → -n < 10 ^ (k + 1) → (Tryz.n257 (k + 1)).1 n (ds k n)
  | 0, n, _, h0, h1, h2 => by
    have h3 : decide ((-10) < n) = true := decide_eq_true (by omega)
    refine U.run_dvd (by decide) (U.run_bld (U.run_frzo (U.run_unby (U.run_t h3 (U.run_ret rfl)))))
  | k + 1, n, hk, h0, h1, h2 => by
    refine U.run_dvd (by decide) (U.run_bld (U.run_frzo (U.run_unby ?_)))
    unfold ds
    refine U.ite_if (fun _ => U.ke_ret rfl) (fun hc => U.run_dvd (by decide) ?_)
    have h3 := of_decide_eq_false hc
    have e := tdiv10 h1
    have h4 : -n / 10 < 10 ^ (k + 1) := by
      have : (10 : Int) ^ (k + 1 + 1) = 10 ^ (k + 1) * 10 := Int.pow_succ ..
      omega
    have hw : IntKind.i64.wrap (Int.tdiv n 10) = Int.tdiv n 10 := by rw [w64]; omega
    refine U.run_call (M := Tryz.w257 _ _) _ (n257 k (IntKind.i64.wrap (Int.tdiv n 10)) (by omega) (by rw [hw]; omega) (by rw [hw]; omega) (by rw [hw]; omega)) (U.run_cat ?_ (U.ke_ret rfl))
    have := ds_size k (IntKind.i64.wrap (Int.tdiv n 10))
    have : (strOfNums [dg n]).size = 1 := one_size _
    show (ds k (IntKind.i64.wrap (Int.tdiv n 10))).size + (strOfNums [dg n]).size ≤ maxLen
    unfold maxLen; omega
def decS (n : Int) : ByteArray := if decide (n < 0) = true then (⟨#[45]⟩ : ByteArray) ++ ds 19 n else ds 19 (IntKind.i64.wrap (0 - n))
theorem m238 (n : Int) (h0 : 0 ≤ n) (h1 : n ≤ 9223372036854775807) : Tryz.m238.R n (decS n) := by
  unfold decS
  have hw : IntKind.i64.wrap (0 - n) = 0 - n := by rw [w64]; omega
  refine U.ite_if (fun hc => ?_) (fun hc => U.run_call _ ⟨_, n257 19 _ (by decide) (by rw [hw]; omega) (by rw [hw]; omega) (by rw [hw]; omega)⟩ (U.ke_ret rfl))
  have := of_decide_eq_true hc; omega
def runS (n : Int) : ByteArray := if decide (n < 1) = true then (⟨#[]⟩ : ByteArray) else (⟨#[114]⟩ : ByteArray) ++ decS n
theorem m213 (n : Int) (h1 : n ≤ 9223372036854775807) : Tryz.m213.R n (runS n) := by
  unfold runS
  refine U.ite_if (fun _ => U.ke_ret rfl) (fun hc => ?_)
  have := of_decide_eq_false hc
  refine U.run_call _ (m238 n (by omega) h1) (U.run_cat ?_ (U.ke_ret rfl))
  show (⟨#[114]⟩ : ByteArray).size + (decS n).size ≤ maxLen
  have h2 : (⟨#[114]⟩ : ByteArray).size = 1 := rfl
  unfold decS
  rw [if_neg (by rw [decide_eq_true_eq]; omega)]
  have := ds_size 19 (IntKind.i64.wrap (0 - n))
  unfold maxLen; omega
def acc (n b : Int) : Int := IntKind.i64.wrap ((IntKind.i64.wrap ((IntKind.i64.wrap (10 * n)) + (IntKind.i64.wrap b))) - 48)
def numE (run : ByteArray) (n : Int) : Int × Bool := if decide (n < 1) = true then (0, false) else if (!strEq (runS n) run) = true then (0, false) else (n, true)
def numR (run : ByteArray) : Int × Bool := if run.size ≤ 20 then numE run (((bytesL run).drop 1).foldl acc 0) else (0, false)
theorem wrap_rng (n : Int) : IntKind.i64.wrap n ≤ 9223372036854775807 := by
  rw [IntKind.wrap_i64]; omega
theorem e171 (run : ByteArray) (n : Int) (h : n ≤ 9223372036854775807) : Ev Tryz.c171 (.s1 run n) (numE run n) :=
  Ev.intro (U.ite_if (fun _ => U.ke_ret rfl) (fun _ => U.run_call _ (m213 n h) (U.ite_if (fun _ => U.ke_ret rfl) (fun _ => U.ke_ret rfl))))
theorem m171 (run : ByteArray) (hs : run.size ≤ 4611686018427387904) : Tryz.m171.R run (numR run) := by
  refine U.ke_jump ?_
  unfold numR
  by_cases h20 : run.size ≤ 20
  · rw [if_pos h20]
    have hlen : ((bytesL run).drop 1).length = run.size - 1 := by rw [List.length_drop, bytesL_length]
    refine (U.ev_for ((bytesL run).drop 1) (fun i s => Tryz.J171.s0 run s (i + 1)) (fun _ s => s ≤ 9223372036854775807) (fun l s => numE run (l.foldl acc s)) (by rw [hlen]; omega) ?_ ?_ 0 (by decide) :)
    · intro s hs'
      rw [hlen]
      refine U.run_f (decide_eq_false (by omega)) (U.ke_jump (e171 run s hs'))
    · intro i hi s hs' hw ht x r hx hm y hy ih
      rw [hlen] at hi
      have hb : byteAt run (((i : Int) + 1)).toNat = x := by
        rw [← hx, List.getElem_drop, show ((i : Int) + 1).toNat = 1 + i by omega]
        exact bytesL_at run (1 + i) _
      refine U.run_t (decide_eq_true (by omega)) (U.run_t (decide_eq_true (by omega)) ?_)
      have hbt : Runs (P := Tryz.prog) (.byte run ((i + 1 : Nat) : Int) (.jump (.s0 run (acc s (byteAt run (((i : Int) + 1)).toNat)) (IntKind.i64.wrap (((i : Int) + 1) + 1))) [])) (U.KE Tryz.c171 y) := by
        refine U.run_byte (by omega) (U.ke_jump ?_)
        rw [hb, show IntKind.i64.wrap (((i : Int) + 1) + 1) = ((i + 1 : Nat) : Int) + 1 by rw [w64]; (· omega); (· omega)]
        exact ih (acc s x) (wrap_rng _) (by rw [hy]; rfl)
      exact hbt
  · rw [if_neg h20]
    refine Ev.intro (U.run_ite (fun _ => U.run_f (decide_eq_false (by omega)) (U.ke_jump ?_)) (fun _ => U.ke_jump ?_))
    · exact e171 run 0 (by decide)
    · exact e171 run 0 (by decide)
end ZR
end Go.Proofs
end
