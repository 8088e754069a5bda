/- Layer 57: what activities of a simulation do. -/
import Derived.Test.YtlgnflbekdldnaaAvTO
import Derived.Test.YtlgnflbekdldnaaAvU4
import Derived.Test.YtlgnflbekdldnaaAvQ6
set_option linter.unusedVariables false
set_option maxRecDepth 4000
namespace Go.Proofs
open Go Go.AV
namespace OV
open VU
attribute [local irreducible] Runs
def rok (l : List GRule) : Prop := (∀ x ∈ l, x.ok) ∧ l.length ≤ 4611686018427387904
theorem zero_ok : FU.zero.ok := ⟨rfl, rfl, by decide, ⟨trivial, by decide⟩, ⟨by simp, by decide⟩, trivial⟩
/-! ### How much -/
def kf : List ByteArray → Int → Int
  | [], m => m
  | k :: r, m => if decide (0 ≤ m) = true then kf r (IntKind.i64.wrap (m - (k.size : Int))) else m
mutual
def few : GVal → Int → Int
  | .mk _ _ t is ks, m => fews is (kf ks (IntKind.i64.wrap (IntKind.i64.wrap (m - 1) - (t.size : Int))))
def fews : List GVal → Int → Int
  | [], m => m
  | x :: r, m => if decide (0 ≤ m) = true then fews r (few x m) else m
end
theorem few_eq (v : GVal) (m : Int) : few v m = fews v.Items (kf v.Keys (IntKind.i64.wrap (IntKind.i64.wrap (m - 1) - (v.Text.size : Int)))) := by cases v; rfl
theorem few123 : ∀ n (v : GVal) (m : Int), SizeOf.sizeOf v < n → v.ok → (Try.n123 n).1 (v, m) (few v m)
  | 0, v, m, h, _ => absurd h (Nat.not_lt_zero _)
  | n + 1, v, m, h, hv => by
    obtain ⟨h1, h2⟩ := GVal.okI hv
    obtain ⟨h3, h4⟩ := GVal.okK hv
    have hs1 : ∀ k, Ev (Try.c123 (Try.n123 n).1 (Try.n123 n).2) (.s1 k v) (fews v.Items k) := by
      intro k
      refine Ev.intro (U.run_jump ?_)
      show Ev _ _ _
      refine (U.ev_for v.Items (fun i k => Try.J123.s2 k v i) (fun _ _ => True) (fun l k => fews l k) (reach80 h2) ?_ ?_ k trivial :)
      · intro s _; exact U.run_len (U.run_f U.dec_f (U.run_ret rfl))
      · intro i hi s _ hw ht x r hx hm y hy ih
        refine U.run_len (U.run_t ht (U.run_ite (fun hb => U.run_elemX hi hx (U.run_call _ (few123 n x s (sub h hm) (h1 _ hm)) (U.run_jump ?_))) (fun hb => U.run_ret ?_)))
        · show Ev _ _ _
          rw [hw]; refine ih _ trivial ?_
          rw [hy, fews, if_pos hb]
        · show _ = _
          rw [hy, fews, if_neg (by rw [hb]; decide)]
    rw [few_eq]
    refine U.run_jump ?_
    show Ev _ _ _
    refine (U.ev_for v.Keys (fun i k => Try.J123.s0 k v i) (fun _ _ => True) (fun l k => fews v.Items (kf l k)) (reach16 h4) ?_ ?_ _ trivial :)
    · intro s _; exact U.run_len (U.run_f U.dec_f (U.run_jump (hs1 s)))
    · intro i hi s _ hw ht x r hx hm y hy ih
      refine U.run_len (U.run_t ht (U.run_ite (fun hb => U.run_elemX hi hx (U.run_jump ?_)) (fun hb => U.run_jump ?_)))
      · show Ev _ _ _
        rw [hw]; refine ih _ trivial ?_
        rw [hy, kf, if_pos hb]
      · show Ev _ _ _
        rw [hy, kf, if_neg (by rw [hb]; decide)]
        exact hs1 s
theorem m123 (v : GVal) (m : Int) (hv : v.ok) : Try.m123.R (v, m) (few v m) := ⟨_, few123 (SizeOf.sizeOf v + 1) v m (Nat.lt_succ_self _) hv⟩
def most : List GRule → Nat → Int → Int
  | [], _, m => m
  | x :: r, i, m => if decide ((i : Int) ≤ 50) = true then (if decide (0 ≤ m) = true then most r (i + 1) (IntKind.i64.wrap (IntKind.i64.wrap (few x.Result m - (x.Name.size : Int)) - (x.Failure.size : Int))) else m) else m
def small (l : List GRule) (arg : GVal) : Bool := if decide (0 ≤ most l 0 (few arg 6000)) = true then decide ((l.length : Int) ≤ 50) else false
theorem m79 (l : List GRule) (arg : GVal) (hl : rok l) (ha : arg.ok) : Try.m79.R (l, arg) (small l arg) := by
  have hs1 : ∀ k, Ev Try.c79 (.s1 l k) (if decide (0 ≤ k) = true then decide ((l.length : Int) ≤ 50) else false) := by
    intro k
    refine Ev.intro (U.run_ite (fun hb => U.run_len (U.run_ret ?_)) (fun hb => U.run_ret ?_))
    · show _ = _; rw [if_pos hb]
    · show _ = _; rw [if_neg (by rw [hb]; decide)]
  refine U.run_call _ (m123 arg 6000 ha) (U.run_jump ?_)
  show Ev _ _ _
  refine (U.ev_for l (fun i (s : Int × Nat) => Try.J79.s0 l s.1 i) (fun i s => s.2 = i) (fun r s => if decide (0 ≤ most r s.2 s.1) = true then decide ((l.length : Int) ≤ 50) else false) hl.2 ?_ ?_ (_, 0) rfl :)
  · intro s _; exact U.run_len (U.run_f U.dec_f (U.run_jump (hs1 s.1)))
  · rintro i hi ⟨s, j⟩ hj hw ht x r hx hm y hy ih
    dsimp only at hj
    subst hj
    dsimp only at hy
    refine U.run_len (U.run_t ht (U.run_ite (fun hb => U.run_ite (fun hc => U.run_elemX hi hx (U.run_call _ (m123 x.Result s (hl.1 _ hm).2.2.2.2.2.1) (U.run_elemX hi hx (U.run_elemX hi hx (U.run_jump ?_))))) (fun hc => U.run_jump ?_)) (fun hb => U.run_jump ?_)))
    · show Ev _ _ _
      have e : most (x :: r) j s = most r (j + 1) (IntKind.i64.wrap (IntKind.i64.wrap (few x.Result s - (x.Name.size : Int)) - (x.Failure.size : Int))) := by rw [most, if_pos hb, if_pos hc]
      rw [hw]; refine ih (IntKind.i64.wrap (IntKind.i64.wrap (few x.Result s - (x.Name.size : Int)) - (x.Failure.size : Int)), j + 1) rfl ?_
      rw [hy, e]
    · show Ev _ _ _
      have e : most (x :: r) j s = s := by rw [most, if_pos hb, if_neg (by dsimp only at hc; rw [hc]; decide)]
      rw [hy, e]; exact hs1 s
    · show Ev _ _ _
      have e : most (x :: r) j s = s := by rw [most, if_neg (by rw [hb]; decide)]
      rw [hy, e]; exact hs1 s
/-! ### Rules -/
theorem find_cons (name : ByteArray) (x : GRule) (r : List GRule) : OU.findFrom name (x :: r) = if strEq x.Name name = true then x else OU.findFrom name r := by
  rw [OU.findFrom, strEq_iff]
  by_cases h : x.Name = name
  · rw [if_pos h, if_pos (by simpa using h)]
  · rw [if_neg h, if_neg (by simpa using h)]
theorem m155 (l : List GRule) (name : ByteArray) (hl : rok l) : Try.m155.R (l, name) (OU.findFrom name l) := by
  refine U.run_len (U.run_jump ?_)
  show Ev _ _ _
  refine (U.ev_for l (fun i (s : GRule) => Try.J155.s0 name s l l.length i) (fun _ _ => True) (fun r _ => OU.findFrom name r) hl.2 ?_ ?_ _ trivial :)
  · intro s _; exact U.run_f U.dec_f (U.run_ret rfl)
  · intro i hi s _ hw ht x r hx hm y hy ih
    rw [find_cons] at hy
    refine U.run_t ht (U.run_elemX hi hx (U.run_ite (fun hb => U.run_ret ?_) (fun hb => U.run_jump ?_)))
    · show _ = _; rw [hy, if_pos hb]
    · show Ev _ _ _
      rw [hw]; refine ih _ trivial ?_
      rw [hy, if_neg (by rw [hb]; decide)]
theorem m157 (l : List GRule) (name : ByteArray) (hl : rok l) : Try.m157.R (l, name) (OU.findFrom name l) := by
  refine U.run_jump ?_
  show Ev _ _ _
  refine (U.ev_for l (fun i (s : GRule) => Try.J157.s0 l name s i) (fun _ _ => True) (fun r _ => OU.findFrom name r) hl.2 ?_ ?_ _ trivial :)
  · intro s _; exact U.run_len (U.run_f U.dec_f (U.run_ret rfl))
  · intro i hi s _ hw ht x r hx hm y hy ih
    rw [find_cons] at hy
    refine U.run_len (U.run_t ht (U.run_elemX hi hx (U.run_ite (fun hb => U.run_elemX hi hx (U.run_ret ?_)) (fun hb => U.run_jump ?_))))
    · show _ = _; rw [hy, if_pos hb]
    · show Ev _ _ _
      rw [hw]; refine ih _ trivial ?_
      rw [hy, if_neg (by rw [hb]; decide)]
theorem m156 (r : GRule) (arg : GVal) (hr : r.ok) (ha : arg.ok) : Try.m156.R (r, arg) (OU.res r arg) := by
  refine U.run_ite (fun hb => U.run_call _ (m153 arg ha) (U.run_ret ?_)) (fun hb => U.run_call _ (m153 r.Result hr.2.2.2.2.2.1) (U.run_ret ?_))
  · show _ = _; unfold OU.res; rw [if_pos hb]
  · show _ = _; unfold OU.res; rw [if_neg (by rw [hb]; decide)]
theorem m158 (r : GRule) (arg : GVal) : Try.m158.R (r, arg) (OU.res r arg) := by
  refine U.run_ite (fun hb => U.run_ret ?_) (fun hb => U.run_ret ?_)
  · show _ = _; unfold OU.res; rw [if_pos hb]
  · show _ = _; unfold OU.res; rw [if_neg (by rw [hb]; decide)]
def rule (l : List GRule) (name : ByteArray) : GRule := OU.findFrom name l
theorem hang_eq (s : ByteArray) : strEq s ⟨#[104, 97, 110, 103]⟩ = decide (s = OU.hang) := strEq_iff ..
theorem m81 (l : List GRule) (name : ByteArray) (arg : GVal) (k : Int) (hl : rok l) (hn : name.size ≤ reachBytes) (ha : arg.ok) : Try.m81.R (l, name, arg, k) (OU.of (OU.findFrom name l) arg k) := by
  have hr := OU.find_ok name hn l hl.1
  have c1 := m155 l name hl
  generalize OU.findFrom name l = r at hr c1
  have hs0 : ∀ t b, b = decide (r.Fails < 1 ∨ r.Fails < k) → Ev Try.c81 (.s0 arg t r b) (OU.of r arg k) := by
    intro t b hb
    refine Ev.intro (U.run_ite (fun h => U.run_call _ (m156 r arg hr ha) (U.run_ret ?_)) (fun h => U.run_ite (fun h2 => U.run_ret ?_) (fun h2 => U.run_ret ?_)))
    · rw [h] at hb
      show _ = _
      unfold OU.of; rw [if_pos (of_decide_eq_true hb.symm)]
    · rw [h] at hb
      rw [hang_eq] at h2
      show _ = _
      unfold OU.of; rw [if_neg (of_decide_eq_false hb.symm), if_pos (of_decide_eq_true h2)]; rfl
    · rw [h] at hb
      rw [hang_eq] at h2
      show _ = _
      unfold OU.of; rw [if_neg (of_decide_eq_false hb.symm), if_neg (of_decide_eq_false h2)]; rfl
  refine U.run_call _ c1 (U.run_ite (fun h => U.run_jump ?_) (fun h => U.run_jump ?_))
  · exact hs0 _ _ (by rw [decide_eq_true (.inl (of_decide_eq_true h))])
  · refine hs0 _ _ ?_
    have h' := of_decide_eq_false h
    rw [Bool.eq_iff_iff]; simp [h']
theorem nb1 {b : Bool} (h : false = !b) : b = true := by cases b; cases h; rfl
theorem nb2 {b : Bool} (h : true = !b) : b = false := by cases b; rfl; cases h
theorem m82 (l : List GRule) (name : ByteArray) (arg : GVal) (k : Int) (hl : rok l) : Try.m82.R (l, name, arg, k) (OU.of (OU.findFrom name l) arg k) := by
  have c1 := m157 l name hl
  generalize OU.findFrom name l = r at c1
  have hs0 : ∀ t b, b = !decide (r.Fails < 1 ∨ r.Fails < k) → Ev Try.c82 (.s0 arg t r b) (OU.of r arg k) := by
    intro t b hb
    refine Ev.intro (U.run_ite (fun h => U.run_ite (fun h2 => U.run_ret ?_) (fun h2 => U.run_ret ?_)) (fun h => U.run_call _ (m158 r arg) (U.run_ret ?_)))
    · rw [h] at hb
      rw [hang_eq] at h2
      show _ = _
      unfold OU.of; rw [if_neg (of_decide_eq_false (nb2 hb)), if_pos (of_decide_eq_true h2)]; rfl
    · rw [h] at hb
      rw [hang_eq] at h2
      show _ = _
      unfold OU.of; rw [if_neg (of_decide_eq_false (nb2 hb)), if_neg (of_decide_eq_false h2)]; rfl
    · rw [h] at hb
      show _ = _
      unfold OU.of; rw [if_pos (of_decide_eq_true (nb1 hb))]
  refine U.run_call _ c1 (U.run_ite (fun h => U.run_jump ?_) (fun h => U.run_jump ?_))
  · refine hs0 _ _ ?_
    have h' := of_decide_eq_true h
    rw [Bool.eq_iff_iff]; simp; omega
  · refine hs0 _ _ ?_
    have h' := of_decide_eq_false h
    rw [decide_eq_true (.inl (by omega))]; rfl
theorem m84 (l : List GRule) (name : ByteArray) (arg : GVal) (hl : rok l) (hn : name.size ≤ reachBytes) (ha : arg.ok) : Try.m84.R (l, name, arg) (OU.fin (OU.findFrom name l) arg) := by
  have hr := OU.find_ok name hn l hl.1
  have c1 := m155 l name hl
  generalize OU.findFrom name l = r at hr c1
  refine U.run_call _ c1 (U.run_ite (fun h => U.run_ite (fun h2 => U.run_ret ?_) (fun h2 => U.run_ite (fun h3 => U.run_ret ?_) (fun h3 => U.run_call _ (m156 r arg hr ha) (U.run_ret ?_)))) (fun h => U.run_call _ (m156 r arg hr ha) (U.run_ret ?_)))
  · show _ = _
    unfold OU.fin; rw [if_pos ⟨of_decide_eq_true h, .inl (of_decide_eq_true h2)⟩]; rfl
  · rw [hang_eq] at h3
    show _ = _
    unfold OU.fin; rw [if_pos ⟨of_decide_eq_true h, .inr (of_decide_eq_true h3)⟩]; rfl
  · rw [hang_eq] at h3
    show _ = _
    unfold OU.fin; rw [if_neg (fun q => q.2.elim (of_decide_eq_false h2) (of_decide_eq_false h3))]
  · show _ = _
    unfold OU.fin; rw [if_neg (fun q => of_decide_eq_false h q.1)]
theorem m85 (l : List GRule) (name : ByteArray) (arg : GVal) (hl : rok l) : Try.m85.R (l, name, arg) (OU.fin (OU.findFrom name l) arg) := by
  have c1 := m157 l name hl
  generalize OU.findFrom name l = r at c1
  refine U.run_call _ c1 (U.run_ite (fun h => U.run_ite (fun h3 => U.run_ret ?_) (fun h3 => U.run_ite (fun h2 => U.run_ret ?_) (fun h2 => U.run_call _ (m158 r arg) (U.run_ret ?_)))) (fun h => U.run_call _ (m158 r arg) (U.run_ret ?_)))
  · rw [hang_eq] at h3
    show _ = _
    unfold OU.fin; rw [if_pos ⟨of_decide_eq_true h, .inr (of_decide_eq_true h3)⟩]; rfl
  · show _ = _
    unfold OU.fin; rw [if_pos ⟨of_decide_eq_true h, .inl (of_decide_eq_true h2)⟩]; rfl
  · rw [hang_eq] at h3
    show _ = _
    unfold OU.fin; rw [if_neg (fun q => q.2.elim (of_decide_eq_false h2) (of_decide_eq_false h3))]
  · show _ = _
    unfold OU.fin; rw [if_neg (fun q => of_decide_eq_false h q.1)]
theorem m83 (l : List GRule) (hl : l.length * 136 ≤ reachBytes) : Try.m83.R l l := by
  refine U.run_adT (U.run_jump ?_)
  show Ev _ _ _
  refine (U.ev_for l (fun i s => Try.J83.s0 l s i) (fun i s => s.length = i) (fun r s => s ++ r) (by have := reach_eq; omega) ?_ ?_ [] rfl :)
  · intro s _; exact U.run_len (U.run_f U.dec_f (U.run_ret (List.append_nil s).symm))
  · intro i hi s hs hw ht x r hx hm y hy ih
    refine U.run_len (U.run_t ht (U.run_elemX hi hx (U.run_elemX hi hx (U.run_elemX hi hx (U.run_elemX hi hx (U.run_elemX hi hx (U.run_elemX hi hx (U.run_bld (U.run_app ?_ (U.run_jump ?_))))))))))
    · have := reach_eq; simp; omega
    · show Ev _ _ _
      rw [hw]; refine ih _ (by simp [hs]) ?_
      rw [hy, List.append_assoc]; rfl
end OV
end Go.Proofs
