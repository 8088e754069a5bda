import Derived.Test.YtlgnflbekdldnaaAvTV
import Derived.Test.YtlgnflbekdldnaaAvQ5
import Derived.Test.YtlgnflbekdldnaaAvQ2
/- Values: what the printed walks compute. -/
set_option linter.unusedVariables false
set_option maxRecDepth 4000
namespace Go.Proofs
open Go Go.AV
namespace VU
attribute [local irreducible] Runs
theorem sub {n : Nat} {v x : GVal} (h : SizeOf.sizeOf v < n + 1) (hx : x ∈ v.Items) : SizeOf.sizeOf x < n := Nat.lt_of_lt_of_le (GVal.lt hx) (Nat.le_of_lt_succ h)
theorem size70 : ∀ n (v : GVal), SizeOf.sizeOf v < n → v.ok → (Try.n70 n).1 v (VV.sz v)
  | 0, v, h, _ => absurd h (Nat.not_lt_zero _)
  | n + 1, v, h, hv => by
    obtain ⟨h1, h2⟩ := GVal.okI hv
    refine U.run_jump ?_
    show Ev _ _ _
    rw [VV.sz_eq]
    refine U.ev_for v.Items (fun i s => Try.J70.s0 v s i) (fun _ _ => True) VV.szs (reach80 h2) ?_ ?_ 1 trivial
    · intro s _; exact U.run_len (U.run_f U.dec_f (U.run_ret rfl))
    · intro i hi s _ hw ht x r hx hm y hy ih
      refine U.run_len (U.run_t ht (U.run_elemX hi hx (U.run_call _ (size70 n _ (sub h hm) (h1 _ hm)) ?_)))
      refine U.run_jump ?_
      show Ev _ _ _
      rw [hw]; exact ih _ trivial hy.symm
theorem size218 : ∀ n (v : GVal), SizeOf.sizeOf v < n → v.ok → (Try.n218 n).1 v (VV.sz v)
  | 0, v, h, _ => absurd h (Nat.not_lt_zero _)
  | n + 1, v, h, hv => by
    obtain ⟨h1, h2⟩ := GVal.okI hv
    refine U.run_len ?_
    refine U.run_jump ?_
    show Ev _ _ _
    rw [VV.sz_eq]
    refine U.ev_for v.Items (fun i s => Try.J218.s0 s v.Items v.Items.length i) (fun _ _ => True) VV.szs (reach80 h2) ?_ ?_ 1 trivial
    · intro s _; exact U.run_f U.dec_f (U.run_ret rfl)
    · intro i hi s _ hw ht x r hx hm y hy ih
      refine U.run_t ht (U.run_elemX hi hx (U.run_call _ (size218 n _ (sub h hm) (h1 _ hm)) ?_))
      refine U.run_jump ?_
      show Ev _ _ _
      rw [hw]; exact ih _ trivial hy.symm
theorem dep217 : ∀ n (v : GVal), SizeOf.sizeOf v < n → v.ok → (Try.n217 n).1 v (VV.dep v)
  | 0, v, h, _ => absurd h (Nat.not_lt_zero _)
  | n + 1, v, h, hv => by
    obtain ⟨h1, h2⟩ := GVal.okI hv
    refine U.run_len ?_
    refine U.run_jump ?_
    show Ev _ _ _
    rw [VV.dep_eq]
    refine U.ev_for v.Items (fun i s => Try.J217.s0 s v.Items v.Items.length i) (fun _ _ => True) (fun l m => IntKind.i64.wrap (VV.deps l m + 1)) (reach80 h2) ?_ ?_ 0 trivial
    · intro s _; exact U.run_f U.dec_f (U.run_ret rfl)
    · intro i hi s _ hw ht x r hx hm y hy ih
      refine U.run_t ht (U.run_elemX hi hx (U.run_call _ (dep217 n _ (sub h hm) (h1 _ hm)) ?_))
      refine U.run_jump ?_
      show Ev _ _ _
      rw [hw]; exact ih _ trivial hy.symm
theorem dep226 : ∀ n (v : GVal), SizeOf.sizeOf v < n → v.ok → (Try.n226 n).1 v (VV.dep v)
  | 0, v, h, _ => absurd h (Nat.not_lt_zero _)
  | n + 1, v, h, hv => by
    obtain ⟨h1, h2⟩ := GVal.okI hv
    refine U.run_jump ?_
    show Ev _ _ _
    rw [VV.dep_eq]
    refine U.ev_for v.Items (fun i s => Try.J226.s0 v s i) (fun _ _ => True) (fun l m => IntKind.i64.wrap (VV.deps l m + 1)) (reach80 h2) ?_ ?_ 0 trivial
    · intro s _; exact U.run_len (U.run_f U.dec_f (U.run_ret rfl))
    · intro i hi s _ hw ht x r hx hm y hy ih
      refine U.run_len (U.run_t ht (U.run_elemX hi hx (U.run_call _ (dep226 n _ (sub h hm) (h1 _ hm)) ?_)))
      refine U.run_ite (fun hb => ?_) (fun hb => ?_)
      · refine U.run_jump ?_
        show Ev _ _ _
        rw [hw]; refine ih _ trivial ?_
        rw [hy]; simp only [VV.deps]; rw [if_pos (of_decide_eq_true hb)]
      · refine U.run_jump ?_
        show Ev _ _ _
        rw [hw]; refine ih _ trivial ?_
        rw [hy]; simp only [VV.deps]; rw [if_neg (of_decide_eq_false hb)]
/-! ### IndexFunc, ContainsFunc -/
/-- The first place at which p holds. -/
def idxF {α : Type} (p : α → Bool) : List α → Int → Int
  | [], _ => -1
  | x :: r, k => if p x = true then k else idxF p r (k + 1)
theorem idxF_any {α : Type} (p : α → Bool) : ∀ (l : List α) (k : Int), 0 ≤ k → decide (0 ≤ idxF p l k) = l.any p
  | [], k, _ => rfl
  | x :: r, k, hk => by
    simp only [idxF, List.any_cons]
    by_cases h : p x = true
    · simp only [h, if_true, Bool.true_or, decide_eq_true_eq]; exact hk
    · simp only [Bool.eq_false_iff.2 h, if_false, Bool.false_or, Bool.false_eq_true]; exact idxF_any p r (k + 1) (by omega)
theorem idx214 (s : List ByteArray) (f : Try.Clo172) (p : ByteArray → Bool) (hp : ∀ x ∈ s, f.R x (p x)) (hl : s.length ≤ 4611686018427387904) : Try.m214.R (s, f) (idxF p s 0) := by
  refine U.run_len ?_
  refine U.run_jump ?_
  show Ev _ _ _
  refine (U.ev_for s (fun i (k : Nat) => Try.J214.s0 s f s.length i) (fun i k => k = i) (fun l k => idxF p l k) hl ?_ ?_ 0 rfl :)
  · intro k _; exact U.run_f U.dec_f (U.run_ret rfl)
  · intro i hi k hk hw ht x r hx hm y hy ih
    refine U.run_t ht (U.run_elemX hi hx (U.run_call _ (hp _ hm) ?_))
    refine U.run_ite (fun hb => ?_) (fun hb => ?_)
    · refine U.run_ret ?_
      show (i : Int) = y
      rw [hy, idxF, if_pos hb, hk]
    · refine U.run_jump ?_
      show Ev _ _ _
      rw [hw]; refine ih (i + 1) rfl ?_
      rw [hy, idxF, if_neg (by rw [hb]; decide), hk]; rfl
theorem has188 (s : List ByteArray) (f : Try.Clo172) (p : ByteArray → Bool) (hp : ∀ x ∈ s, f.R x (p x)) (hl : s.length ≤ 4611686018427387904) : Try.m188.R (s, f) (s.any p) := by
  refine U.run_call _ (idx214 s f p hp hl) ?_
  exact U.run_ret (idxF_any p s 0 (by decide))
theorem idx234 (s : List GVal) (f : Try.Clo175) (p : GVal → Bool) (hp : ∀ x ∈ s, f.R x (p x)) (hl : s.length ≤ 4611686018427387904) : Try.m234.R (s, f) (idxF p s 0) := by
  refine U.run_len ?_
  refine U.run_jump ?_
  show Ev _ _ _
  refine (U.ev_for s (fun i (k : Nat) => Try.J234.s0 s f s.length i) (fun i k => k = i) (fun l k => idxF p l k) hl ?_ ?_ 0 rfl :)
  · intro k _; exact U.run_f U.dec_f (U.run_ret rfl)
  · intro i hi k hk hw ht x r hx hm y hy ih
    refine U.run_t ht (U.run_elemX hi hx (U.run_call _ (hp _ hm) ?_))
    refine U.run_ite (fun hb => ?_) (fun hb => ?_)
    · refine U.run_ret ?_
      show (i : Int) = y
      rw [hy, idxF, if_pos hb, hk]
    · refine U.run_jump ?_
      show Ev _ _ _
      rw [hw]; refine ih (i + 1) rfl ?_
      rw [hy, idxF, if_neg (by rw [hb]; decide), hk]; rfl
theorem has221 (s : List GVal) (f : Try.Clo175) (p : GVal → Bool) (hp : ∀ x ∈ s, f.R x (p x)) (hl : s.length ≤ 4611686018427387904) : Try.m221.R (s, f) (s.any p) := by
  refine U.run_call _ (idx234 s f p hp hl) ?_
  exact U.run_ret (idxF_any p s 0 (by decide))
theorem not_any_not {α : Type} (p : α → Bool) (l : List α) : (!l.any fun x => !p x) = l.all p := by
  induction l with
  | nil => rfl
  | cons x r ih => simp only [List.any_cons, List.all_cons, Bool.not_or, Bool.not_not, ih]
theorem short219 : ∀ n (v : GVal), SizeOf.sizeOf v < n → v.ok → (Try.n219 n).1 v (VV.short v)
  | 0, v, h, _ => absurd h (Nat.not_lt_zero _)
  | n + 1, v, h, hv => by
    obtain ⟨h1, h2⟩ := GVal.okI hv
    obtain ⟨h3, h4⟩ := GVal.okK hv
    rw [VV.short_eq]
    refine U.run_ite (fun hb => U.run_ret ?_) (fun hb => ?_)
    · show _ = _
      unfold VV.lg; rw [hb]; rfl
    refine U.run_call _ (has188 v.Keys _ VV.lg (fun x _ => U.run_ret rfl) (reach16 h4)) ?_
    refine U.run_ite (fun hb2 => U.run_ret ?_) (fun hb2 => ?_)
    · show _ = _
      rw [hb2]; simp
    refine U.run_call _ (has221 v.Items _ (fun x => !VV.short x) (fun x hx => U.run_call _ (short219 n x (sub h hx) (h1 _ hx)) (U.run_ret rfl)) (reach80 h2)) ?_
    refine U.run_ret ?_
    show _ = _
    rw [not_any_not, hb2]; unfold VV.lg; rw [hb]; simp
theorem short225 : ∀ n (v : GVal), SizeOf.sizeOf v < n → v.ok → (Try.n225 n).1 v (VV.short v)
  | 0, v, h, _ => absurd h (Nat.not_lt_zero _)
  | n + 1, v, h, hv => by
    obtain ⟨h1, h2⟩ := GVal.okI hv
    obtain ⟨h3, h4⟩ := GVal.okK hv
    rw [VV.short_eq]
    refine U.run_ite (fun hb => U.run_ret ?_) (fun hb => ?_)
    · show _ = _
      unfold VV.lg; rw [hb]; rfl
    have e : VV.lg v.Text = false := hb
    rw [e]
    refine U.run_jump ?_
    show Ev _ _ _
    refine (U.ev_for v.Keys (fun i (_ : Unit) => Try.J225.s0 v i) (fun _ _ => True) (fun l _ => !false && !l.any VV.lg && v.Items.all VV.short) (reach16 h4) ?_ ?_ () trivial :)
    · intro s _
      refine U.run_len (U.run_f U.dec_f (U.run_jump ?_))
      show Ev _ _ _
      refine (U.ev_for v.Items (fun i (_ : Unit) => Try.J225.s1 v i) (fun _ _ => True) (fun l _ => l.all VV.short) (reach80 h2) ?_ ?_ () trivial :)
      · intro s _; exact U.run_len (U.run_f U.dec_f (U.run_ret rfl))
      · intro i hi s _ hw ht x r hx hm y hy ih
        refine U.run_len (U.run_t ht (U.run_elemX hi hx (U.run_call _ (short225 n _ (sub h hm) (h1 _ hm)) ?_)))
        refine U.run_ite (fun hb => U.run_ret ?_) (fun hb => U.run_jump ?_)
        · show _ = _
          rw [hy]; simp at hb; simp [hb]
        · show Ev _ _ _
          rw [hw]; refine ih () trivial ?_
          rw [hy]; simp at hb; simp [hb]
    · intro i hi s _ hw ht x r hx hm y hy ih
      refine U.run_len (U.run_t ht (U.run_elemX hi hx ?_))
      refine U.run_ite (fun hb => U.run_ret ?_) (fun hb => U.run_jump ?_)
      · show _ = _
        have hb' : VV.lg x = true := hb
        rw [hy]; simp [hb']
      · show Ev _ _ _
        have hb' : VV.lg x = false := hb
        rw [hw]; refine ih () trivial ?_
        rw [hy]; simp [hb']
theorem fut202 : ∀ n (v : GVal), SizeOf.sizeOf v < n → v.ok → (Try.n202 n).1 v (VV.fut v)
  | 0, v, h, _ => absurd h (Nat.not_lt_zero _)
  | n + 1, v, h, hv => by
    obtain ⟨h1, h2⟩ := GVal.okI hv
    rw [VV.fut_eq]
    refine U.run_jump ?_
    show Ev _ _ _
    refine (U.ev_for v.Items (fun i (_ : Unit) => Try.J202.s0 v i) (fun _ _ => True) (fun l _ => l.any VV.fut || decide (v.Kind = 6)) (reach80 h2) ?_ ?_ () trivial :)
    · intro s _
      refine U.run_len (U.run_f U.dec_f (U.run_ret ?_))
      show _ = _
      simp; rfl
    · intro i hi s _ hw ht x r hx hm y hy ih
      refine U.run_len (U.run_t ht (U.run_elemX hi hx (U.run_call _ (fut202 n _ (sub h hm) (h1 _ hm)) ?_)))
      refine U.run_ite (fun hb => U.run_ret ?_) (fun hb => U.run_jump ?_)
      · show _ = _
        rw [hy]; simp [hb]
      · show Ev _ _ _
        rw [hw]; refine ih () trivial ?_
        rw [hy]; simp [hb]
/-! ### Keys that rise -/
theorem asc_cons (a b : ByteArray) (r : List ByteArray) : VV.asc (a :: b :: r) = (strLt a b && VV.asc (b :: r)) := by
  unfold VV.asc
  have : (a :: b :: r).length - 1 = (b :: r).length - 1 + 1 := by simp
  rw [this, List.range_succ_eq_map, List.all_cons, List.all_map]
  rfl
theorem asc220 (l : List ByteArray) (hl : l.length ≤ 4611686018427387904) : Try.m220.R l (VV.asc l) := by
  have key : ∀ (n i : Nat), n + i + 1 = l.length → Ev Try.c220 (.s0 l ((i + 1 : Nat) : Int)) (VV.asc (l.drop i)) := by
    intro n
    induction n with
    | zero =>
      intro i hi
      refine Ev.intro (U.run_len (U.run_f ?_ (U.run_ret ?_)))
      · rw [show i + 1 = l.length by omega]; exact U.dec_f
      · show _ = _
        rw [List.drop_eq_getElem_cons (show i < l.length by omega), List.drop_eq_nil_of_le (by omega)]; rfl
    | succ n ih =>
      intro i hi
      have h1 : i + 1 < l.length := by omega
      have e : l.drop i = l[i] :: l[i + 1] :: l.drop (i + 2) := by
        rw [List.drop_eq_getElem_cons (show i < l.length by omega), List.drop_eq_getElem_cons h1]
      refine Ev.intro (U.run_len (U.run_t (U.dec_t h1) (U.run_elemP i (by rw [w64] <;> omega) (by omega) (U.run_elem h1 ?_))))
      rw [e, asc_cons]
      refine U.run_ite (fun hb => U.run_ret ?_) (fun hb => U.run_jump ?_)
      · show _ = _
        simp at hb; rw [hb]; rfl
      · show Ev _ _ _
        rw [U.wsucc h1 hl]
        have := ih (i + 1) (by omega)
        rw [List.drop_eq_getElem_cons h1] at this
        simp at hb; rw [hb, Bool.true_and]; exact this
  refine U.run_jump ?_
  show Ev _ _ _
  cases h : l.length with
  | zero =>
    have : l = [] := List.eq_nil_of_length_eq_zero h
    subst this
    exact Ev.intro (U.run_len (U.run_f rfl (U.run_ret rfl)))
  | succ m =>
    have := key m 0 (by omega)
    rwa [List.drop_zero] at this
theorem asc224 (l : List ByteArray) (hl : l.length ≤ 4611686018427387904) : Try.m224.R l (VV.asc l) := by
  have key : ∀ (n i : Nat), n + i + 1 = l.length → Ev Try.c224 (.s0 l ((i + 1 : Nat) : Int)) (VV.asc (l.drop i)) := by
    intro n
    induction n with
    | zero =>
      intro i hi
      refine Ev.intro (U.run_len (U.run_f ?_ (U.run_ret ?_)))
      · rw [show i + 1 = l.length by omega]; exact U.dec_f
      · show _ = _
        rw [List.drop_eq_getElem_cons (show i < l.length by omega), List.drop_eq_nil_of_le (by omega)]; rfl
    | succ n ih =>
      intro i hi
      have h1 : i + 1 < l.length := by omega
      have e : l.drop i = l[i] :: l[i + 1] :: l.drop (i + 2) := by
        rw [List.drop_eq_getElem_cons (show i < l.length by omega), List.drop_eq_getElem_cons h1]
      refine Ev.intro (U.run_len (U.run_t (U.dec_t h1) (U.run_elemP i (by rw [w64] <;> omega) (by omega) (U.run_elem h1 ?_))))
      rw [e, asc_cons]
      refine U.run_ite (fun hb => U.run_ret ?_) (fun hb => U.run_jump ?_)
      · show _ = _
        simp at hb; rw [hb]; rfl
      · show Ev _ _ _
        rw [U.wsucc h1 hl]
        have := ih (i + 1) (by omega)
        rw [List.drop_eq_getElem_cons h1] at this
        simp at hb; rw [hb, Bool.true_and]; exact this
  refine U.run_jump ?_
  show Ev _ _ _
  cases h : l.length with
  | zero =>
    have : l = [] := List.eq_nil_of_length_eq_zero h
    subst this
    exact Ev.intro (U.run_len (U.run_f rfl (U.run_ret rfl)))
  | succ m =>
    have := key m 0 (by omega)
    rwa [List.drop_zero] at this
end VU
end Go.Proofs
/- Well-formed values, copies, names. -/
set_option linter.unusedVariables false
set_option maxRecDepth 4000
namespace Go.Proofs
open Go Go.AV
namespace VU
attribute [local irreducible] Runs
theorem pos0 (n : Nat) : decide (0 < (n : Int)) = !decide ((n : Int) = 0) := by
  cases n with
  | zero => rfl
  | succ n => rw [decide_eq_true (by omega), decide_eq_false (by omega)]; rfl
theorem form196 : ∀ n (v : GVal) (b : Bool), SizeOf.sizeOf v < n → v.ok → (Try.n196 n).1 (v, b) (VV.wf b v)
  | 0, v, b, h, _ => absurd h (Nat.not_lt_zero _)
  | n + 1, v, b, h, hv => by
    obtain ⟨h1, h2⟩ := GVal.okI hv
    obtain ⟨h3, h4⟩ := GVal.okK hv
    have hrec : Ev (Try.c196 (Try.n196 n).1 (Try.n196 n).2) (.s0 v b) (v.Items.all (VV.wf b)) := by
      refine Ev.intro (U.run_call _ (has221 v.Items _ (fun x => !VV.wf b x) (fun x hx => U.run_call _ (form196 n x b (sub h hx) (h1 _ hx)) (U.run_ret rfl)) (reach80 h2)) (U.run_ret ?_))
      show _ = _
      exact not_any_not _ _
    have hasc := asc220 v.Keys (reach16 h4)
    refine U.run_len (U.run_len ?_)
    rcases VV.wf_kinds b v with ⟨hk, hw⟩ | ⟨hk, hw⟩ | ⟨hk, hw⟩ | ⟨hk, hw⟩ | ⟨hk, hw⟩ | ⟨hk, hw⟩ | ⟨hk, hw⟩ | ⟨⟨k0, k1, k2, k6, k3, k4, k5⟩, hw⟩
    case inr.inr.inr.inr.inr.inr.inr =>
      rw [hw]
      refine U.run_f (by simpa using k0) (U.run_f (by simpa using k1) (U.run_f (by simpa using k2) (U.run_f (by simpa using k6) (U.run_f (by simpa using k3) (U.run_f (by simpa using k4) (U.run_f (by simpa using k5) (U.run_ret rfl)))))))
    all_goals rw [hw]
    all_goals repeat' (first
      | refine U.run_len ?_
      | refine U.run_f (by rw [hk]; decide) ?_
      | refine U.run_t (by rw [hk]; decide) ?_
      | refine U.run_call _ hasc ?_
      | refine U.run_ite (fun hb => ?_) (fun hb => ?_)
      | refine U.run_ret ?_
      | refine U.run_jump ?_)
    all_goals first
      | (show Ev _ _ _; simp [strEq_iff] at *; simp_all; done)
      | (show _ = _; simp only [pos0, strEq_iff, bne, Bool.not_not] at *; simp [-Int.natCast_eq_zero, -List.length_eq_zero_iff] at *; simp_all [-Int.natCast_eq_zero, -List.length_eq_zero_iff]; done)
      | (have hb' : decide (0 ≤ v.Num) = false := (by assumption); show _ = _; rw [hb']; simp; done)
theorem beqI (a b : Int) : (a == b) = decide (a = b) := rfl
theorem form200 : ∀ n (v : GVal), SizeOf.sizeOf v < n → v.ok → (Try.n200 n).1 v (VV.wf true v)
  | 0, v, h, _ => absurd h (Nat.not_lt_zero _)
  | n + 1, v, h, hv => by
    obtain ⟨h1, h2⟩ := GVal.okI hv
    obtain ⟨h3, h4⟩ := GVal.okK hv
    have hasc := asc224 v.Keys (reach16 h4)
    rw [VV.wf_eq]
    refine U.run_jump ?_
    show Ev _ _ _
    refine (U.ev_for v.Items (fun i (_ : Unit) => Try.J200.s0 v i) (fun _ _ => True) (fun l _ => VV.base true v.Kind v.Num v.Text (v.Items.length : Int) v.Keys && l.all (VV.wf true)) (reach80 h2) ?_ ?_ () trivial :)
    · intro s _
      refine U.run_len (U.run_f U.dec_f ?_)
      dsimp only [List.all_nil]
      rw [Bool.and_true]
      have hb0 : ∀ b, b = VV.base true v.Kind v.Num v.Text (v.Items.length : Int) v.Keys → b = VV.base true v.Kind v.Num v.Text (v.Items.length : Int) v.Keys := fun _ h => h
      generalize hB : VV.base true v.Kind v.Num v.Text (v.Items.length : Int) v.Keys = B at *
      clear hb0
      have hB' : VV.base true v.Kind v.Num v.Text (v.Items.length : Int) v.Keys = B := hB
      unfold VV.base at hB'
      repeat' (first
        | refine U.run_len ?_
        | refine U.run_call _ hasc ?_
        | refine U.run_ite (fun hb => ?_) (fun hb => ?_)
        | refine U.run_ret ?_)
      all_goals (show _ = _; try simp only [strEq_iff, beqI] at *)
      all_goals (try simp only [decide_eq_true_eq, decide_eq_false_iff_not] at *)
      all_goals (simp_all [-Int.natCast_eq_zero, -List.length_eq_zero_iff]; done)
    · intro i hi s _ hw ht x r hx hm y hy ih
      refine U.run_len (U.run_t ht (U.run_elemX hi hx (U.run_call _ (form200 n _ (sub h hm) (h1 _ hm)) ?_)))
      refine U.run_ite (fun hb => U.run_ret ?_) (fun hb => U.run_jump ?_)
      · show _ = _
        simp at hb; rw [hy]; simp [hb]
      · show Ev _ _ _
        simp at hb
        rw [hw]; refine ih () trivial ?_
        rw [hy]; simp [hb]
end VU
end Go.Proofs
/- Right values, copies, equal values, names. -/
set_option linter.unusedVariables false
set_option maxRecDepth 4000
namespace Go.Proofs
open Go Go.AV
namespace VU
attribute [local irreducible] Runs
def right (v : GVal) : Bool := VV.within v && VV.wf false v
theorem m70 (v : GVal) (hv : v.ok) : Try.m70.R v (VV.sz v) := ⟨_, size70 (SizeOf.sizeOf v + 1) v (Nat.lt_succ_self _) hv⟩
theorem m217 (v : GVal) (hv : v.ok) : Try.m217.R v (VV.dep v) := ⟨_, dep217 (SizeOf.sizeOf v + 1) v (Nat.lt_succ_self _) hv⟩
theorem m218 (v : GVal) (hv : v.ok) : Try.m218.R v (VV.sz v) := ⟨_, size218 (SizeOf.sizeOf v + 1) v (Nat.lt_succ_self _) hv⟩
theorem m219 (v : GVal) (hv : v.ok) : Try.m219.R v (VV.short v) := ⟨_, short219 (SizeOf.sizeOf v + 1) v (Nat.lt_succ_self _) hv⟩
theorem m225 (v : GVal) (hv : v.ok) : Try.m225.R v (VV.short v) := ⟨_, short225 (SizeOf.sizeOf v + 1) v (Nat.lt_succ_self _) hv⟩
theorem m226 (v : GVal) (hv : v.ok) : Try.m226.R v (VV.dep v) := ⟨_, dep226 (SizeOf.sizeOf v + 1) v (Nat.lt_succ_self _) hv⟩
theorem m202 (v : GVal) (hv : v.ok) : Try.m202.R v (VV.fut v) := ⟨_, fut202 (SizeOf.sizeOf v + 1) v (Nat.lt_succ_self _) hv⟩
theorem m200 (v : GVal) (hv : v.ok) : Try.m200.R v (VV.wf true v) := ⟨_, form200 (SizeOf.sizeOf v + 1) v (Nat.lt_succ_self _) hv⟩
theorem m196 (v : GVal) (b : Bool) (hv : v.ok) : Try.m196.R (v, b) (VV.wf b v) := ⟨_, form196 (SizeOf.sizeOf v + 1) v b (Nat.lt_succ_self _) hv⟩
theorem m195 (v : GVal) (hv : v.ok) : (Try.m195 Try.m217.R Try.m217.ok Try.m218.R Try.m218.ok Try.m219.R Try.m219.ok).R v (VV.within v) := by
  unfold VV.within
  refine U.run_call _ (m217 v hv) (U.run_ite (fun h1 => U.run_call _ (m218 v hv) (U.run_ite (fun h2 => U.run_call _ (m219 v hv) (U.run_ret ?_)) (fun h2 => U.run_ret ?_))) (fun h1 => U.run_ret ?_))
  · show _ = _; rw [h1, h2]; rfl
  · show _ = _; rw [h1, h2]; rfl
  · show _ = _; rw [h1]; rfl
theorem m140 (v : GVal) (hv : v.ok) : (Try.m140 Try.m217.R Try.m217.ok Try.m218.R Try.m218.ok Try.m219.R Try.m219.ok Try.m196.R Try.m196.ok).R v (right v) := by
  unfold right
  refine U.run_call _ (m195 v hv) (U.run_ite (fun h1 => U.run_call _ (m196 v false hv) (U.run_ret ?_)) (fun h1 => U.run_ret ?_))
  · show _ = _; rw [h1]; rfl
  · show _ = _; rw [h1]; rfl
theorem m201 (v : GVal) (hv : v.ok) : (Try.m201 Try.m225.R Try.m225.ok Try.m226.R Try.m226.ok).R v (VV.within v) := by
  unfold VV.within
  refine U.run_call _ (m225 v hv) (U.run_ite (fun h1 => U.run_call _ (m226 v hv) (U.run_ite (fun h2 => U.run_call _ (m70 v hv) (U.run_ret ?_)) (fun h2 => U.run_ret ?_))) (fun h1 => U.run_ret ?_))
  · show _ = _; rw [h1, h2]; simp
  · show _ = _; rw [h1, h2]; rfl
  · show _ = _; rw [h1]; simp
theorem m148 (v : GVal) (hv : v.ok) : (Try.m148 Try.m200.R Try.m200.ok Try.m225.R Try.m225.ok Try.m226.R Try.m226.ok Try.m202.R Try.m202.ok).R v (right v) := by
  unfold right
  rw [VV.wf_fut]
  refine U.run_call _ (m200 v hv) (U.run_ite (fun h1 => U.run_call _ (m201 v hv) (U.run_ite (fun h2 => U.run_call _ (m202 v hv) (U.run_ret ?_)) (fun h2 => U.run_ret ?_))) (fun h1 => U.run_ret ?_))
  · show _ = _; rw [h1, h2]; simp
  · show _ = _; rw [h1, h2]; rfl
  · show _ = _; rw [h1]; simp
/-! ### Copies -/
theorem m136 (l : List ByteArray) (hl : l.length * 16 ≤ reachBytes) : Try.m136.R l l := by
  refine U.run_nil (fun he => U.run_t rfl (U.run_ret he.symm)) (U.run_f rfl (U.run_bld (U.run_app ?_ (U.run_ret rfl))))
  have := reach_eq; simp; omega
theorem m203 (R : GVal → GVal → Prop) (ok : Try.O153 R) (l : List GVal) (hr : ∀ x ∈ l, R x x) (hl : l.length * 80 ≤ reachBytes) : (Try.m203 R ok).R l l := by
  refine U.run_len (U.run_adT (U.run_jump ?_))
  show Ev _ _ _
  refine (U.ev_for l (fun i s => Try.J203.s0 s l l.length i) (fun i s => s.length = i) (fun r s => s ++ r) (reach80 hl) ?_ ?_ [] rfl :)
  · intro s _
    exact U.run_f U.dec_f (U.run_ret (List.append_nil s).symm)
  · intro i hi s hs hw ht x r hx hm y hy ih
    refine U.run_t ht (U.run_elemX hi hx (U.run_call _ (hr _ hm) (U.run_bld (U.run_app ?_ (U.run_jump ?_)))))
    · have := reach_eq; simp; omega
    · show Ev _ _ _
      rw [hw]; refine ih _ (by simp [hs]) ?_
      rw [hy, List.append_assoc]; rfl
theorem copy153 : ∀ n (v : GVal), SizeOf.sizeOf v < n → v.ok → (Try.n153 n).1 v v
  | 0, v, h, _ => absurd h (Nat.not_lt_zero _)
  | n + 1, v, h, hv => by
    obtain ⟨h1, h2⟩ := GVal.okI hv
    obtain ⟨h3, h4⟩ := GVal.okK hv
    refine U.run_call _ (m203 _ _ v.Items (fun x hx => copy153 n x (sub h hx) (h1 _ hx)) h2) (U.run_call _ (m136 v.Keys h4) (U.run_ret ?_))
    cases v; rfl
theorem m153 (v : GVal) (hv : v.ok) : Try.m153.R v v := ⟨_, copy153 (SizeOf.sizeOf v + 1) v (Nat.lt_succ_self _) hv⟩
/-! ### A value is the same as itself -/
theorem same56 : ∀ n (v : GVal), SizeOf.sizeOf v < n → v.ok → (Try.n56 n).1 (v, v) true
  | 0, v, h, _ => absurd h (Nat.not_lt_zero _)
  | n + 1, v, h, hv => by
    obtain ⟨h1, h2⟩ := GVal.okI hv
    obtain ⟨h3, h4⟩ := GVal.okK hv
    refine U.run_f (by simp) (U.run_f (by simp) (U.run_f (by simp [strEq_iff]) (U.run_len (U.run_len (U.run_f (by simp) (U.run_len (U.run_len (U.run_f (by simp) (U.run_jump ?_)))))))))
    show Ev _ _ _
    refine (U.ev_for v.Keys (fun i (_ : Unit) => Try.J56.s0 v v i) (fun _ _ => True) (fun _ _ => true) (reach16 h4) ?_ ?_ () trivial :)
    · intro s _
      refine U.run_len (U.run_f U.dec_f (U.run_jump ?_))
      show Ev _ _ _
      refine (U.ev_for v.Items (fun i (_ : Unit) => Try.J56.s1 v v i) (fun _ _ => True) (fun _ _ => true) (reach80 h2) ?_ ?_ () trivial :)
      · intro s _; exact U.run_len (U.run_f U.dec_f (U.run_ret rfl))
      · intro i hi s _ hw ht x r hx hm y hy ih
        refine U.run_len (U.run_t ht (U.run_elemX hi hx (U.run_elemX hi hx (U.run_call _ (same56 n _ (sub h hm) (h1 _ hm)) (U.run_f rfl (U.run_jump ?_))))))
        show Ev _ _ _
        rw [hw]; exact ih () trivial hy.symm
    · intro i hi s _ hw ht x r hx hm y hy ih
      refine U.run_len (U.run_t ht (U.run_elemX hi hx (U.run_elemX hi hx (U.run_f (by simp [strEq_iff]) (U.run_jump ?_)))))
      show Ev _ _ _
      rw [hw]; exact ih () trivial hy.symm
theorem m56 (v : GVal) (hv : v.ok) : Try.m56.R (v, v) true := ⟨_, same56 (SizeOf.sizeOf v + 1) v (Nat.lt_succ_self _) hv⟩
/-! ### Names -/
theorem m194 (c : Int) : Try.m194.R c (RT.letter c) := by
  show Runs (Try.a194 c) _
  unfold Try.a194
  repeat' (first | refine U.run_ite (fun hb => ?_) (fun hb => ?_) | refine U.run_ret ?_)
  all_goals (show _ = _; rw [Bool.eq_iff_iff]; simp [RT.letter, beqI] at *; try omega)
theorem m139 (s : ByteArray) : Try.m139.R s (RT.nameOk s) := by
  show Runs (Try.a139 s) _
  unfold Try.a139
  refine U.run_ite (fun h0 => U.run_ret ?_) (fun h0 => U.run_ite (fun h1 => U.run_ret ?_) (fun h1 => ?_))
  · show _ = _
    rw [strEq_iff] at h0
    exact (RT.nameOk_s (fun h => by rw [RT.size_zero.2 (of_decide_eq_true h0)] at h; omega)).symm
  · show _ = _
    have := of_decide_eq_true h1
    exact (RT.nameOk_s (fun h => by omega)).symm
  · have h2 : s.size ≤ 64 := by have := of_decide_eq_false h1; omega
    have h3 : 0 < s.size := by
      rw [strEq_iff] at h0
      have := mt RT.size_zero.1 (of_decide_eq_false h0); omega
    have e : RT.nameOk s = (List.range s.size).all (RT.okAt s) := by unfold RT.nameOk; simp [h2, h3]
    rw [e]
    refine U.run_jump ?_
    show Ev _ _ _
    refine (U.ev_for (List.range s.size) (fun i (_ : Unit) => Try.J139.s0 s s.size i) (fun _ _ => True) (fun r _ => r.all (RT.okAt s)) (by simp; omega) ?_ ?_ () trivial :)
    · intro _ _; exact U.run_f (by rw [List.length_range]; exact U.dec_f) (U.run_ret rfl)
    · intro i hi _ _ hw ht x r hx hm y hy ih
      rw [List.length_range] at ht hi
      rw [List.getElem_range] at hx
      subst hx
      have hout : Ev Try.c139 (.s0 s s.size (IntKind.i64.wrap ((i : Int) + 1))) y ∨ RT.okAt s i = false := by
        cases ho : RT.okAt s i
        · exact .inr rfl
        · left; rw [hw]; refine ih () trivial ?_; rw [hy]; simp [ho]
      have hf : RT.okAt s i = false → false = y := fun ho => by rw [hy]; simp [ho]
      refine U.run_t ht (U.run_byte hi (U.run_call _ (m194 _) ?_))
      rw [Int.toNat_natCast]
      refine U.run_ite (fun hb => ?_) (fun hb => U.run_jump ?_)
      · have hb' : RT.letter (byteAt s i) = false := by simpa using hb
        refine U.run_ite (fun hc => U.run_ret ?_) (fun hc => U.run_byte hi (U.run_ite (fun hd => U.run_ret ?_) (fun hd => U.run_byte hi (U.run_ite (fun he => U.run_ret ?_) (fun he => U.run_jump ?_)))))
        · exact hf (by simp at hc; subst hc; simp [RT.okAt, hb'])
        · exact hf (by simp at hd; simp [RT.okAt, hb', RT.digit]; omega)
        · exact hf (by simp at he; simp [RT.okAt, hb', RT.digit]; omega)
        · show Ev _ _ _
          refine hout.resolve_right ?_
          simp at hc hd he
          simp [RT.okAt, hb', RT.digit]; omega
      · show Ev _ _ _
        have hb' : RT.letter (byteAt s i) = true := by simpa using hb
        exact hout.resolve_right (by simp [RT.okAt, hb'])
theorem m193 (c : Int) : Try.m193.R c (RT.letter c || RT.digit c) := by
  show Runs (Try.a193 c) _
  unfold Try.a193
  repeat' (first | refine U.run_ite (fun hb => ?_) (fun hb => ?_) | refine U.run_ret ?_)
  all_goals (show _ = _; rw [Bool.eq_iff_iff]; simp [RT.letter, RT.digit, beqI] at *; try omega)
theorem okAt_0 (s : ByteArray) (h : RT.digit (byteAt s 0) = false) (i : Nat) : RT.okAt s i = ((RT.letter (byteAt s i) || RT.digit (byteAt s i))) := by
  unfold RT.okAt
  cases i with
  | zero => rw [h]; simp
  | succ n => simp
theorem m135 (s : ByteArray) : Try.m135.R s (RT.nameOk s) := by
  show Runs (Try.a135 s) _
  unfold Try.a135
  refine U.run_ite (fun h0 => U.run_ret ?_) (fun h0 => U.run_ite (fun h1 => U.run_ret ?_) (fun h1 => ?_))
  · show _ = _
    have := of_decide_eq_true h0
    exact (RT.nameOk_s (fun h => by omega)).symm
  · show _ = _
    have := of_decide_eq_true h1
    exact (RT.nameOk_s (fun h => by omega)).symm
  have h2 : s.size ≤ 64 := by have := of_decide_eq_false h1; omega
  have h3 : 0 < s.size := by have := of_decide_eq_false h0; omega
  have e : RT.nameOk s = (List.range s.size).all (RT.okAt s) := by unfold RT.nameOk; simp [h2, h3]
  have goon : RT.digit (byteAt s 0) = false → Ev Try.c135 (.s0 s) (RT.nameOk s) := by
    intro hd
    rw [e]
    refine Ev.intro (U.run_jump ?_)
    show Ev _ _ _
    refine (U.ev_for (List.range s.size) (fun i (_ : Unit) => Try.J135.s1 s i) (fun _ _ => True) (fun r _ => r.all (RT.okAt s)) (by simp; omega) ?_ ?_ () trivial :)
    · intro _ _; exact U.run_f (by rw [List.length_range]; exact U.dec_f) (U.run_ret rfl)
    · intro i hi _ _ hw ht x r hx hm y hy ih
      rw [List.length_range] at ht hi
      rw [List.getElem_range] at hx
      subst hx
      refine U.run_t ht (U.run_byte hi (U.run_call _ (m193 _) ?_))
      rw [Int.toNat_natCast, ← okAt_0 s hd]
      refine U.run_ite (fun hb => U.run_ret ?_) (fun hb => U.run_jump ?_)
      · show _ = _
        simp at hb; rw [hy]; simp [hb]
      · show Ev _ _ _
        simp at hb
        rw [hw]; refine ih () trivial ?_; rw [hy]; simp [hb]
  have hby : ∀ {k : Cert Try.prog Try.J135 Bool} {K}, Runs k K → Runs (.byte s 0 k) K := fun h => U.run_byte (i := 0) h3 h
  refine hby (U.run_ite (fun hc => hby (U.run_ite (fun hd => U.run_ret ?_) (fun hd => U.run_jump (goon ?_)))) (fun hc => U.run_jump (goon ?_)))
  · show _ = _
    refine (RT.nameOk_f 0 h3 ?_).symm
    have h1 : (48 : Int) ≤ byteAt s 0 := of_decide_eq_true hc
    have h2 : byteAt s 0 ≤ (57 : Int) := of_decide_eq_true hd
    simp [RT.okAt, RT.letter]; omega
  · have h2 : ¬ byteAt s 0 ≤ (57 : Int) := of_decide_eq_false hd
    simp [RT.digit]; omega
  · have h1 : ¬ (48 : Int) ≤ byteAt s 0 := of_decide_eq_false hc
    simp [RT.digit]; omega
end VU
end Go.Proofs
