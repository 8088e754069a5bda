/- Values: what the printed walks compute. -/
import Derived.Test.YtlgnflbekdldnaaAvTV
import Derived.Test.YtlgnflbekdldnaaAvQ5
import Derived.Test.YtlgnflbekdldnaaAvQ2
set_option linter.unusedVariables false
set_option maxRecDepth 4000
namespace Go.Proofs
open Go Go.AV
namespace VU
attribute [local irreducible] Runs
theorem sub {n : Nat} {v x : GVal} (h : SizeOf.sizeOf v < n + 1) (hx : x ∈ v.Items) : SizeOf.sizeOf x < n := Nat.lt_of_lt_of_le (GVal.lt hx) (Nat.le_of_lt_succ h)
theorem size70 : ∀ n (v : GVal), SizeOf.sizeOf v < n → v.ok → (Try.n70 n).1 v (VV.sz v)
  | 0, v, h, _ => absurd h (Nat.not_lt_zero _)
  | n + 1, v, h, hv => by
    obtain ⟨h1, h2⟩ := GVal.okI hv
    refine U.run_jump ?_
    show Ev _ _ _
    rw [VV.sz_eq]
    refine U.ev_for v.Items (fun i s => Try.J70.s0 v s i) (fun _ _ => True) VV.szs (reach80 h2) ?_ ?_ 1 trivial
    · intro s _; exact U.run_len (U.run_f U.dec_f (U.run_ret rfl))
    · intro i hi s _ hw ht x r hx hm y hy ih
      refine U.run_len (U.run_t ht (U.run_elemX hi hx (U.run_call _ (size70 n _ (sub h hm) (h1 _ hm)) ?_)))
      refine U.run_jump ?_
      show Ev _ _ _
      rw [hw]; exact ih _ trivial hy.symm
theorem size218 : ∀ n (v : GVal), SizeOf.sizeOf v < n → v.ok → (Try.n218 n).1 v (VV.sz v)
  | 0, v, h, _ => absurd h (Nat.not_lt_zero _)
  | n + 1, v, h, hv => by
    obtain ⟨h1, h2⟩ := GVal.okI hv
    refine U.run_len ?_
    refine U.run_jump ?_
    show Ev _ _ _
    rw [VV.sz_eq]
    refine U.ev_for v.Items (fun i s => Try.J218.s0 s v.Items v.Items.length i) (fun _ _ => True) VV.szs (reach80 h2) ?_ ?_ 1 trivial
    · intro s _; exact U.run_f U.dec_f (U.run_ret rfl)
    · intro i hi s _ hw ht x r hx hm y hy ih
      refine U.run_t ht (U.run_elemX hi hx (U.run_call _ (size218 n _ (sub h hm) (h1 _ hm)) ?_))
      refine U.run_jump ?_
      show Ev _ _ _
      rw [hw]; exact ih _ trivial hy.symm
theorem dep217 : ∀ n (v : GVal), SizeOf.sizeOf v < n → v.ok → (Try.n217 n).1 v (VV.dep v)
  | 0, v, h, _ => absurd h (Nat.not_lt_zero _)
  | n + 1, v, h, hv => by
    obtain ⟨h1, h2⟩ := GVal.okI hv
    refine U.run_len ?_
    refine U.run_jump ?_
    show Ev _ _ _
    rw [VV.dep_eq]
    refine U.ev_for v.Items (fun i s => Try.J217.s0 s v.Items v.Items.length i) (fun _ _ => True) (fun l m => IntKind.i64.wrap (VV.deps l m + 1)) (reach80 h2) ?_ ?_ 0 trivial
    · intro s _; exact U.run_f U.dec_f (U.run_ret rfl)
    · intro i hi s _ hw ht x r hx hm y hy ih
      refine U.run_t ht (U.run_elemX hi hx (U.run_call _ (dep217 n _ (sub h hm) (h1 _ hm)) ?_))
      refine U.run_jump ?_
      show Ev _ _ _
      rw [hw]; exact ih _ trivial hy.symm
theorem dep226 : ∀ n (v : GVal), SizeOf.sizeOf v < n → v.ok → (Try.n226 n).1 v (VV.dep v)
  | 0, v, h, _ => absurd h (Nat.not_lt_zero _)
  | n + 1, v, h, hv => by
    obtain ⟨h1, h2⟩ := GVal.okI hv
    refine U.run_jump ?_
    show Ev _ _ _
    rw [VV.dep_eq]
    refine U.ev_for v.Items (fun i s => Try.J226.s0 v s i) (fun _ _ => True) (fun l m => IntKind.i64.wrap (VV.deps l m + 1)) (reach80 h2) ?_ ?_ 0 trivial
    · intro s _; exact U.run_len (U.run_f U.dec_f (U.run_ret rfl))
    · intro i hi s _ hw ht x r hx hm y hy ih
      refine U.run_len (U.run_t ht (U.run_elemX hi hx (U.run_call _ (dep226 n _ (sub h hm) (h1 _ hm)) ?_)))
      refine U.run_ite (fun hb => ?_) (fun hb => ?_)
      · refine U.run_jump ?_
        show Ev _ _ _
        rw [hw]; refine ih _ trivial ?_
        rw [hy]; simp only [VV.deps]; rw [if_pos (of_decide_eq_true hb)]
      · refine U.run_jump ?_
        show Ev _ _ _
        rw [hw]; refine ih _ trivial ?_
        rw [hy]; simp only [VV.deps]; rw [if_neg (of_decide_eq_false hb)]
/-! ### IndexFunc, ContainsFunc -/
/-- The first place at which p holds. -/
def idxF {α : Type} (p : α → Bool) : List α → Int → Int
  | [], _ => -1
  | x :: r, k => if p x = true then k else idxF p r (k + 1)
theorem idxF_any {α : Type} (p : α → Bool) : ∀ (l : List α) (k : Int), 0 ≤ k → decide (0 ≤ idxF p l k) = l.any p
  | [], k, _ => rfl
  | x :: r, k, hk => by
    simp only [idxF, List.any_cons]
    by_cases h : p x = true
    · simp only [h, if_true, Bool.true_or, decide_eq_true_eq]; exact hk
    · simp only [Bool.eq_false_iff.2 h, if_false, Bool.false_or, Bool.false_eq_true]; exact idxF_any p r (k + 1) (by omega)
theorem idx214 (s : List ByteArray) (f : Try.Clo172) (p : ByteArray → Bool) (hp : ∀ x ∈ s, f.R x (p x)) (hl : s.length ≤ 4611686018427387904) : Try.m214.R (s, f) (idxF p s 0) := by
  refine U.run_len ?_
  refine U.run_jump ?_
  show Ev _ _ _
  refine (U.ev_for s (fun i (k : Nat) => Try.J214.s0 s f s.length i) (fun i k => k = i) (fun l k => idxF p l k) hl ?_ ?_ 0 rfl :)
  · intro k _; exact U.run_f U.dec_f (U.run_ret rfl)
  · intro i hi k hk hw ht x r hx hm y hy ih
    refine U.run_t ht (U.run_elemX hi hx (U.run_call _ (hp _ hm) ?_))
    refine U.run_ite (fun hb => ?_) (fun hb => ?_)
    · refine U.run_ret ?_
      show (i : Int) = y
      rw [hy, idxF, if_pos hb, hk]
    · refine U.run_jump ?_
      show Ev _ _ _
      rw [hw]; refine ih (i + 1) rfl ?_
      rw [hy, idxF, if_neg (by rw [hb]; decide), hk]; rfl
theorem has188 (s : List ByteArray) (f : Try.Clo172) (p : ByteArray → Bool) (hp : ∀ x ∈ s, f.R x (p x)) (hl : s.length ≤ 4611686018427387904) : Try.m188.R (s, f) (s.any p) := by
  refine U.run_call _ (idx214 s f p hp hl) ?_
  exact U.run_ret (idxF_any p s 0 (by decide))
theorem idx234 (s : List GVal) (f : Try.Clo175) (p : GVal → Bool) (hp : ∀ x ∈ s, f.R x (p x)) (hl : s.length ≤ 4611686018427387904) : Try.m234.R (s, f) (idxF p s 0) := by
  refine U.run_len ?_
  refine U.run_jump ?_
  show Ev _ _ _
  refine (U.ev_for s (fun i (k : Nat) => Try.J234.s0 s f s.length i) (fun i k => k = i) (fun l k => idxF p l k) hl ?_ ?_ 0 rfl :)
  · intro k _; exact U.run_f U.dec_f (U.run_ret rfl)
  · intro i hi k hk hw ht x r hx hm y hy ih
    refine U.run_t ht (U.run_elemX hi hx (U.run_call _ (hp _ hm) ?_))
    refine U.run_ite (fun hb => ?_) (fun hb => ?_)
    · refine U.run_ret ?_
      show (i : Int) = y
      rw [hy, idxF, if_pos hb, hk]
    · refine U.run_jump ?_
      show Ev _ _ _
      rw [hw]; refine ih (i + 1) rfl ?_
      rw [hy, idxF, if_neg (by rw [hb]; decide), hk]; rfl
theorem has221 (s : List GVal) (f : Try.Clo175) (p : GVal → Bool) (hp : ∀ x ∈ s, f.R x (p x)) (hl : s.length ≤ 4611686018427387904) : Try.m221.R (s, f) (s.any p) := by
  refine U.run_call _ (idx234 s f p hp hl) ?_
  exact U.run_ret (idxF_any p s 0 (by decide))
theorem not_any_not {α : Type} (p : α → Bool) (l : List α) : (!l.any fun x => !p x) = l.all p := by
  induction l with
  | nil => rfl
  | cons x r ih => simp only [List.any_cons, List.all_cons, Bool.not_or, Bool.not_not, ih]
theorem short219 : ∀ n (v : GVal), SizeOf.sizeOf v < n → v.ok → (Try.n219 n).1 v (VV.short v)
  | 0, v, h, _ => absurd h (Nat.not_lt_zero _)
  | n + 1, v, h, hv => by
    obtain ⟨h1, h2⟩ := GVal.okI hv
    obtain ⟨h3, h4⟩ := GVal.okK hv
    rw [VV.short_eq]
    refine U.run_ite (fun hb => U.run_ret ?_) (fun hb => ?_)
    · show _ = _
      unfold VV.lg; rw [hb]; rfl
    refine U.run_call _ (has188 v.Keys _ VV.lg (fun x _ => U.run_ret rfl) (reach16 h4)) ?_
    refine U.run_ite (fun hb2 => U.run_ret ?_) (fun hb2 => ?_)
    · show _ = _
      rw [hb2]; simp
    refine U.run_call _ (has221 v.Items _ (fun x => !VV.short x) (fun x hx => U.run_call _ (short219 n x (sub h hx) (h1 _ hx)) (U.run_ret rfl)) (reach80 h2)) ?_
    refine U.run_ret ?_
    show _ = _
    rw [not_any_not, hb2]; unfold VV.lg; rw [hb]; simp
theorem short225 : ∀ n (v : GVal), SizeOf.sizeOf v < n → v.ok → (Try.n225 n).1 v (VV.short v)
  | 0, v, h, _ => absurd h (Nat.not_lt_zero _)
  | n + 1, v, h, hv => by
    obtain ⟨h1, h2⟩ := GVal.okI hv
    obtain ⟨h3, h4⟩ := GVal.okK hv
    rw [VV.short_eq]
    refine U.run_ite (fun hb => U.run_ret ?_) (fun hb => ?_)
    · show _ = _
      unfold VV.lg; rw [hb]; rfl
    have e : VV.lg v.Text = false := hb
    rw [e]
    refine U.run_jump ?_
    show Ev _ _ _
    refine (U.ev_for v.Keys (fun i (_ : Unit) => Try.J225.s0 v i) (fun _ _ => True) (fun l _ => !false && !l.any VV.lg && v.Items.all VV.short) (reach16 h4) ?_ ?_ () trivial :)
    · intro s _
      refine U.run_len (U.run_f U.dec_f (U.run_jump ?_))
      show Ev _ _ _
      refine (U.ev_for v.Items (fun i (_ : Unit) => Try.J225.s1 v i) (fun _ _ => True) (fun l _ => l.all VV.short) (reach80 h2) ?_ ?_ () trivial :)
      · intro s _; exact U.run_len (U.run_f U.dec_f (U.run_ret rfl))
      · intro i hi s _ hw ht x r hx hm y hy ih
        refine U.run_len (U.run_t ht (U.run_elemX hi hx (U.run_call _ (short225 n _ (sub h hm) (h1 _ hm)) ?_)))
        refine U.run_ite (fun hb => U.run_ret ?_) (fun hb => U.run_jump ?_)
        · show _ = _
          rw [hy]; simp at hb; simp [hb]
        · show Ev _ _ _
          rw [hw]; refine ih () trivial ?_
          rw [hy]; simp at hb; simp [hb]
    · intro i hi s _ hw ht x r hx hm y hy ih
      refine U.run_len (U.run_t ht (U.run_elemX hi hx ?_))
      refine U.run_ite (fun hb => U.run_ret ?_) (fun hb => U.run_jump ?_)
      · show _ = _
        have hb' : VV.lg x = true := hb
        rw [hy]; simp [hb']
      · show Ev _ _ _
        have hb' : VV.lg x = false := hb
        rw [hw]; refine ih () trivial ?_
        rw [hy]; simp [hb']
theorem fut202 : ∀ n (v : GVal), SizeOf.sizeOf v < n → v.ok → (Try.n202 n).1 v (VV.fut v)
  | 0, v, h, _ => absurd h (Nat.not_lt_zero _)
  | n + 1, v, h, hv => by
    obtain ⟨h1, h2⟩ := GVal.okI hv
    rw [VV.fut_eq]
    refine U.run_jump ?_
    show Ev _ _ _
    refine (U.ev_for v.Items (fun i (_ : Unit) => Try.J202.s0 v i) (fun _ _ => True) (fun l _ => l.any VV.fut || decide (v.Kind = 6)) (reach80 h2) ?_ ?_ () trivial :)
    · intro s _
      refine U.run_len (U.run_f U.dec_f (U.run_ret ?_))
      show _ = _
      simp; rfl
    · intro i hi s _ hw ht x r hx hm y hy ih
      refine U.run_len (U.run_t ht (U.run_elemX hi hx (U.run_call _ (fut202 n _ (sub h hm) (h1 _ hm)) ?_)))
      refine U.run_ite (fun hb => U.run_ret ?_) (fun hb => U.run_jump ?_)
      · show _ = _
        rw [hy]; simp [hb]
      · show Ev _ _ _
        rw [hw]; refine ih () trivial ?_
        rw [hy]; simp [hb]
/-! ### Keys that rise -/
theorem asc_cons (a b : ByteArray) (r : List ByteArray) : VV.asc (a :: b :: r) = (strLt a b && VV.asc (b :: r)) := by
  unfold VV.asc
  have : (a :: b :: r).length - 1 = (b :: r).length - 1 + 1 := by simp
  rw [this, List.range_succ_eq_map, List.all_cons, List.all_map]
  rfl
theorem asc220 (l : List ByteArray) (hl : l.length ≤ 4611686018427387904) : Try.m220.R l (VV.asc l) := by
  have key : ∀ (n i : Nat), n + i + 1 = l.length → Ev Try.c220 (.s0 l ((i + 1 : Nat) : Int)) (VV.asc (l.drop i)) := by
    intro n
    induction n with
    | zero =>
      intro i hi
      refine Ev.intro (U.run_len (U.run_f ?_ (U.run_ret ?_)))
      · rw [show i + 1 = l.length by omega]; exact U.dec_f
      · show _ = _
        rw [List.drop_eq_getElem_cons (show i < l.length by omega), List.drop_eq_nil_of_le (by omega)]; rfl
    | succ n ih =>
      intro i hi
      have h1 : i + 1 < l.length := by omega
      have e : l.drop i = l[i] :: l[i + 1] :: l.drop (i + 2) := by
        rw [List.drop_eq_getElem_cons (show i < l.length by omega), List.drop_eq_getElem_cons h1]
      refine Ev.intro (U.run_len (U.run_t (U.dec_t h1) (U.run_elemP i (by rw [w64] <;> omega) (by omega) (U.run_elem h1 ?_))))
      rw [e, asc_cons]
      refine U.run_ite (fun hb => U.run_ret ?_) (fun hb => U.run_jump ?_)
      · show _ = _
        simp at hb; rw [hb]; rfl
      · show Ev _ _ _
        rw [U.wsucc h1 hl]
        have := ih (i + 1) (by omega)
        rw [List.drop_eq_getElem_cons h1] at this
        simp at hb; rw [hb, Bool.true_and]; exact this
  refine U.run_jump ?_
  show Ev _ _ _
  cases h : l.length with
  | zero =>
    have : l = [] := List.eq_nil_of_length_eq_zero h
    subst this
    exact Ev.intro (U.run_len (U.run_f rfl (U.run_ret rfl)))
  | succ m =>
    have := key m 0 (by omega)
    rwa [List.drop_zero] at this
theorem asc224 (l : List ByteArray) (hl : l.length ≤ 4611686018427387904) : Try.m224.R l (VV.asc l) := by
  have key : ∀ (n i : Nat), n + i + 1 = l.length → Ev Try.c224 (.s0 l ((i + 1 : Nat) : Int)) (VV.asc (l.drop i)) := by
    intro n
    induction n with
    | zero =>
      intro i hi
      refine Ev.intro (U.run_len (U.run_f ?_ (U.run_ret ?_)))
      · rw [show i + 1 = l.length by omega]; exact U.dec_f
      · show _ = _
        rw [List.drop_eq_getElem_cons (show i < l.length by omega), List.drop_eq_nil_of_le (by omega)]; rfl
    | succ n ih =>
      intro i hi
      have h1 : i + 1 < l.length := by omega
      have e : l.drop i = l[i] :: l[i + 1] :: l.drop (i + 2) := by
        rw [List.drop_eq_getElem_cons (show i < l.length by omega), List.drop_eq_getElem_cons h1]
      refine Ev.intro (U.run_len (U.run_t (U.dec_t h1) (U.run_elemP i (by rw [w64] <;> omega) (by omega) (U.run_elem h1 ?_))))
      rw [e, asc_cons]
      refine U.run_ite (fun hb => U.run_ret ?_) (fun hb => U.run_jump ?_)
      · show _ = _
        simp at hb; rw [hb]; rfl
      · show Ev _ _ _
        rw [U.wsucc h1 hl]
        have := ih (i + 1) (by omega)
        rw [List.drop_eq_getElem_cons h1] at this
        simp at hb; rw [hb, Bool.true_and]; exact this
  refine U.run_jump ?_
  show Ev _ _ _
  cases h : l.length with
  | zero =>
    have : l = [] := List.eq_nil_of_length_eq_zero h
    subst this
    exact Ev.intro (U.run_len (U.run_f rfl (U.run_ret rfl)))
  | succ m =>
    have := key m 0 (by omega)
    rwa [List.drop_zero] at this
end VU
end Go.Proofs
