/- Right values, copies, equal values, names. -/
import Derived.Test.YtlgnflbekdldnaaAvU3
set_option linter.unusedVariables false
set_option maxRecDepth 4000
namespace Go.Proofs
open Go Go.AV
namespace VU
attribute [local irreducible] Runs
def right (v : GVal) : Bool := VV.within v && VV.wf false v
theorem m70 (v : GVal) (hv : v.ok) : Try.m70.R v (VV.sz v) := ⟨_, size70 (SizeOf.sizeOf v + 1) v (Nat.lt_succ_self _) hv⟩
theorem m217 (v : GVal) (hv : v.ok) : Try.m217.R v (VV.dep v) := ⟨_, dep217 (SizeOf.sizeOf v + 1) v (Nat.lt_succ_self _) hv⟩
theorem m218 (v : GVal) (hv : v.ok) : Try.m218.R v (VV.sz v) := ⟨_, size218 (SizeOf.sizeOf v + 1) v (Nat.lt_succ_self _) hv⟩
theorem m219 (v : GVal) (hv : v.ok) : Try.m219.R v (VV.short v) := ⟨_, short219 (SizeOf.sizeOf v + 1) v (Nat.lt_succ_self _) hv⟩
theorem m225 (v : GVal) (hv : v.ok) : Try.m225.R v (VV.short v) := ⟨_, short225 (SizeOf.sizeOf v + 1) v (Nat.lt_succ_self _) hv⟩
theorem m226 (v : GVal) (hv : v.ok) : Try.m226.R v (VV.dep v) := ⟨_, dep226 (SizeOf.sizeOf v + 1) v (Nat.lt_succ_self _) hv⟩
theorem m202 (v : GVal) (hv : v.ok) : Try.m202.R v (VV.fut v) := ⟨_, fut202 (SizeOf.sizeOf v + 1) v (Nat.lt_succ_self _) hv⟩
theorem m200 (v : GVal) (hv : v.ok) : Try.m200.R v (VV.wf true v) := ⟨_, form200 (SizeOf.sizeOf v + 1) v (Nat.lt_succ_self _) hv⟩
theorem m196 (v : GVal) (b : Bool) (hv : v.ok) : Try.m196.R (v, b) (VV.wf b v) := ⟨_, form196 (SizeOf.sizeOf v + 1) v b (Nat.lt_succ_self _) hv⟩
theorem m195 (v : GVal) (hv : v.ok) : (Try.m195 Try.m217.R Try.m217.ok Try.m218.R Try.m218.ok Try.m219.R Try.m219.ok).R v (VV.within v) := by
  unfold VV.within
  refine U.run_call _ (m217 v hv) (U.run_ite (fun h1 => U.run_call _ (m218 v hv) (U.run_ite (fun h2 => U.run_call _ (m219 v hv) (U.run_ret ?_)) (fun h2 => U.run_ret ?_))) (fun h1 => U.run_ret ?_))
  · show _ = _; rw [h1, h2]; rfl
  · show _ = _; rw [h1, h2]; rfl
  · show _ = _; rw [h1]; rfl
theorem m140 (v : GVal) (hv : v.ok) : (Try.m140 Try.m217.R Try.m217.ok Try.m218.R Try.m218.ok Try.m219.R Try.m219.ok Try.m196.R Try.m196.ok).R v (right v) := by
  unfold right
  refine U.run_call _ (m195 v hv) (U.run_ite (fun h1 => U.run_call _ (m196 v false hv) (U.run_ret ?_)) (fun h1 => U.run_ret ?_))
  · show _ = _; rw [h1]; rfl
  · show _ = _; rw [h1]; rfl
theorem m201 (v : GVal) (hv : v.ok) : (Try.m201 Try.m225.R Try.m225.ok Try.m226.R Try.m226.ok).R v (VV.within v) := by
  unfold VV.within
  refine U.run_call _ (m225 v hv) (U.run_ite (fun h1 => U.run_call _ (m226 v hv) (U.run_ite (fun h2 => U.run_call _ (m70 v hv) (U.run_ret ?_)) (fun h2 => U.run_ret ?_))) (fun h1 => U.run_ret ?_))
  · show _ = _; rw [h1, h2]; simp
  · show _ = _; rw [h1, h2]; rfl
  · show _ = _; rw [h1]; simp
theorem m148 (v : GVal) (hv : v.ok) : (Try.m148 Try.m200.R Try.m200.ok Try.m225.R Try.m225.ok Try.m226.R Try.m226.ok Try.m202.R Try.m202.ok).R v (right v) := by
  unfold right
  rw [VV.wf_fut]
  refine U.run_call _ (m200 v hv) (U.run_ite (fun h1 => U.run_call _ (m201 v hv) (U.run_ite (fun h2 => U.run_call _ (m202 v hv) (U.run_ret ?_)) (fun h2 => U.run_ret ?_))) (fun h1 => U.run_ret ?_))
  · show _ = _; rw [h1, h2]; simp
  · show _ = _; rw [h1, h2]; rfl
  · show _ = _; rw [h1]; simp
/-! ### Copies -/
theorem m136 (l : List ByteArray) (hl : l.length * 16 ≤ reachBytes) : Try.m136.R l l := by
  refine U.run_nil (fun he => U.run_t rfl (U.run_ret he.symm)) (U.run_f rfl (U.run_bld (U.run_app ?_ (U.run_ret rfl))))
  have := reach_eq; simp; omega
theorem m203 (R : GVal → GVal → Prop) (ok : Try.O153 R) (l : List GVal) (hr : ∀ x ∈ l, R x x) (hl : l.length * 80 ≤ reachBytes) : (Try.m203 R ok).R l l := by
  refine U.run_len (U.run_adT (U.run_jump ?_))
  show Ev _ _ _
  refine (U.ev_for l (fun i s => Try.J203.s0 s l l.length i) (fun i s => s.length = i) (fun r s => s ++ r) (reach80 hl) ?_ ?_ [] rfl :)
  · intro s _
    exact U.run_f U.dec_f (U.run_ret (List.append_nil s).symm)
  · intro i hi s hs hw ht x r hx hm y hy ih
    refine U.run_t ht (U.run_elemX hi hx (U.run_call _ (hr _ hm) (U.run_bld (U.run_app ?_ (U.run_jump ?_)))))
    · have := reach_eq; simp; omega
    · show Ev _ _ _
      rw [hw]; refine ih _ (by simp [hs]) ?_
      rw [hy, List.append_assoc]; rfl
theorem copy153 : ∀ n (v : GVal), SizeOf.sizeOf v < n → v.ok → (Try.n153 n).1 v v
  | 0, v, h, _ => absurd h (Nat.not_lt_zero _)
  | n + 1, v, h, hv => by
    obtain ⟨h1, h2⟩ := GVal.okI hv
    obtain ⟨h3, h4⟩ := GVal.okK hv
    refine U.run_call _ (m203 _ _ v.Items (fun x hx => copy153 n x (sub h hx) (h1 _ hx)) h2) (U.run_call _ (m136 v.Keys h4) (U.run_ret ?_))
    cases v; rfl
theorem m153 (v : GVal) (hv : v.ok) : Try.m153.R v v := ⟨_, copy153 (SizeOf.sizeOf v + 1) v (Nat.lt_succ_self _) hv⟩
/-! ### A value is the same as itself -/
theorem same56 : ∀ n (v : GVal), SizeOf.sizeOf v < n → v.ok → (Try.n56 n).1 (v, v) true
  | 0, v, h, _ => absurd h (Nat.not_lt_zero _)
  | n + 1, v, h, hv => by
    obtain ⟨h1, h2⟩ := GVal.okI hv
    obtain ⟨h3, h4⟩ := GVal.okK hv
    refine U.run_f (by simp) (U.run_f (by simp) (U.run_f (by simp [strEq_iff]) (U.run_len (U.run_len (U.run_f (by simp) (U.run_len (U.run_len (U.run_f (by simp) (U.run_jump ?_)))))))))
    show Ev _ _ _
    refine (U.ev_for v.Keys (fun i (_ : Unit) => Try.J56.s0 v v i) (fun _ _ => True) (fun _ _ => true) (reach16 h4) ?_ ?_ () trivial :)
    · intro s _
      refine U.run_len (U.run_f U.dec_f (U.run_jump ?_))
      show Ev _ _ _
      refine (U.ev_for v.Items (fun i (_ : Unit) => Try.J56.s1 v v i) (fun _ _ => True) (fun _ _ => true) (reach80 h2) ?_ ?_ () trivial :)
      · intro s _; exact U.run_len (U.run_f U.dec_f (U.run_ret rfl))
      · intro i hi s _ hw ht x r hx hm y hy ih
        refine U.run_len (U.run_t ht (U.run_elemX hi hx (U.run_elemX hi hx (U.run_call _ (same56 n _ (sub h hm) (h1 _ hm)) (U.run_f rfl (U.run_jump ?_))))))
        show Ev _ _ _
        rw [hw]; exact ih () trivial hy.symm
    · intro i hi s _ hw ht x r hx hm y hy ih
      refine U.run_len (U.run_t ht (U.run_elemX hi hx (U.run_elemX hi hx (U.run_f (by simp [strEq_iff]) (U.run_jump ?_)))))
      show Ev _ _ _
      rw [hw]; exact ih () trivial hy.symm
theorem m56 (v : GVal) (hv : v.ok) : Try.m56.R (v, v) true := ⟨_, same56 (SizeOf.sizeOf v + 1) v (Nat.lt_succ_self _) hv⟩
/-! ### Names -/
theorem m194 (c : Int) : Try.m194.R c (RT.letter c) := by
  show Runs (Try.a194 c) _
  unfold Try.a194
  repeat' (first | refine U.run_ite (fun hb => ?_) (fun hb => ?_) | refine U.run_ret ?_)
  all_goals (show _ = _; rw [Bool.eq_iff_iff]; simp [RT.letter, beqI] at *; try omega)
theorem m139 (s : ByteArray) : Try.m139.R s (RT.nameOk s) := by
  show Runs (Try.a139 s) _
  unfold Try.a139
  refine U.run_ite (fun h0 => U.run_ret ?_) (fun h0 => U.run_ite (fun h1 => U.run_ret ?_) (fun h1 => ?_))
  · show _ = _
    rw [strEq_iff] at h0
    exact (RT.nameOk_s (fun h => by rw [RT.size_zero.2 (of_decide_eq_true h0)] at h; omega)).symm
  · show _ = _
    have := of_decide_eq_true h1
    exact (RT.nameOk_s (fun h => by omega)).symm
  · have h2 : s.size ≤ 64 := by have := of_decide_eq_false h1; omega
    have h3 : 0 < s.size := by
      rw [strEq_iff] at h0
      have := mt RT.size_zero.1 (of_decide_eq_false h0); omega
    have e : RT.nameOk s = (List.range s.size).all (RT.okAt s) := by unfold RT.nameOk; simp [h2, h3]
    rw [e]
    refine U.run_jump ?_
    show Ev _ _ _
    refine (U.ev_for (List.range s.size) (fun i (_ : Unit) => Try.J139.s0 s s.size i) (fun _ _ => True) (fun r _ => r.all (RT.okAt s)) (by simp; omega) ?_ ?_ () trivial :)
    · intro _ _; exact U.run_f (by rw [List.length_range]; exact U.dec_f) (U.run_ret rfl)
    · intro i hi _ _ hw ht x r hx hm y hy ih
      rw [List.length_range] at ht hi
      rw [List.getElem_range] at hx
      subst hx
      have hout : Ev Try.c139 (.s0 s s.size (IntKind.i64.wrap ((i : Int) + 1))) y ∨ RT.okAt s i = false := by
        cases ho : RT.okAt s i
        · exact .inr rfl
        · left; rw [hw]; refine ih () trivial ?_; rw [hy]; simp [ho]
      have hf : RT.okAt s i = false → false = y := fun ho => by rw [hy]; simp [ho]
      refine U.run_t ht (U.run_byte hi (U.run_call _ (m194 _) ?_))
      rw [Int.toNat_natCast]
      refine U.run_ite (fun hb => ?_) (fun hb => U.run_jump ?_)
      · have hb' : RT.letter (byteAt s i) = false := by simpa using hb
        refine U.run_ite (fun hc => U.run_ret ?_) (fun hc => U.run_byte hi (U.run_ite (fun hd => U.run_ret ?_) (fun hd => U.run_byte hi (U.run_ite (fun he => U.run_ret ?_) (fun he => U.run_jump ?_)))))
        · exact hf (by simp at hc; subst hc; simp [RT.okAt, hb'])
        · exact hf (by simp at hd; simp [RT.okAt, hb', RT.digit]; omega)
        · exact hf (by simp at he; simp [RT.okAt, hb', RT.digit]; omega)
        · show Ev _ _ _
          refine hout.resolve_right ?_
          simp at hc hd he
          simp [RT.okAt, hb', RT.digit]; omega
      · show Ev _ _ _
        have hb' : RT.letter (byteAt s i) = true := by simpa using hb
        exact hout.resolve_right (by simp [RT.okAt, hb'])
theorem m193 (c : Int) : Try.m193.R c (RT.letter c || RT.digit c) := by
  show Runs (Try.a193 c) _
  unfold Try.a193
  repeat' (first | refine U.run_ite (fun hb => ?_) (fun hb => ?_) | refine U.run_ret ?_)
  all_goals (show _ = _; rw [Bool.eq_iff_iff]; simp [RT.letter, RT.digit, beqI] at *; try omega)
theorem okAt_0 (s : ByteArray) (h : RT.digit (byteAt s 0) = false) (i : Nat) : RT.okAt s i = ((RT.letter (byteAt s i) || RT.digit (byteAt s i))) := by
  unfold RT.okAt
  cases i with
  | zero => rw [h]; simp
  | succ n => simp
theorem m135 (s : ByteArray) : Try.m135.R s (RT.nameOk s) := by
  show Runs (Try.a135 s) _
  unfold Try.a135
  refine U.run_ite (fun h0 => U.run_ret ?_) (fun h0 => U.run_ite (fun h1 => U.run_ret ?_) (fun h1 => ?_))
  · show _ = _
    have := of_decide_eq_true h0
    exact (RT.nameOk_s (fun h => by omega)).symm
  · show _ = _
    have := of_decide_eq_true h1
    exact (RT.nameOk_s (fun h => by omega)).symm
  have h2 : s.size ≤ 64 := by have := of_decide_eq_false h1; omega
  have h3 : 0 < s.size := by have := of_decide_eq_false h0; omega
  have e : RT.nameOk s = (List.range s.size).all (RT.okAt s) := by unfold RT.nameOk; simp [h2, h3]
  have goon : RT.digit (byteAt s 0) = false → Ev Try.c135 (.s0 s) (RT.nameOk s) := by
    intro hd
    rw [e]
    refine Ev.intro (U.run_jump ?_)
    show Ev _ _ _
    refine (U.ev_for (List.range s.size) (fun i (_ : Unit) => Try.J135.s1 s i) (fun _ _ => True) (fun r _ => r.all (RT.okAt s)) (by simp; omega) ?_ ?_ () trivial :)
    · intro _ _; exact U.run_f (by rw [List.length_range]; exact U.dec_f) (U.run_ret rfl)
    · intro i hi _ _ hw ht x r hx hm y hy ih
      rw [List.length_range] at ht hi
      rw [List.getElem_range] at hx
      subst hx
      refine U.run_t ht (U.run_byte hi (U.run_call _ (m193 _) ?_))
      rw [Int.toNat_natCast, ← okAt_0 s hd]
      refine U.run_ite (fun hb => U.run_ret ?_) (fun hb => U.run_jump ?_)
      · show _ = _
        simp at hb; rw [hy]; simp [hb]
      · show Ev _ _ _
        simp at hb
        rw [hw]; refine ih () trivial ?_; rw [hy]; simp [hb]
  have hby : ∀ {k : Cert Try.prog Try.J135 Bool} {K}, Runs k K → Runs (.byte s 0 k) K := fun h => U.run_byte (i := 0) h3 h
  refine hby (U.run_ite (fun hc => hby (U.run_ite (fun hd => U.run_ret ?_) (fun hd => U.run_jump (goon ?_)))) (fun hc => U.run_jump (goon ?_)))
  · show _ = _
    refine (RT.nameOk_f 0 h3 ?_).symm
    have h1 : (48 : Int) ≤ byteAt s 0 := of_decide_eq_true hc
    have h2 : byteAt s 0 ≤ (57 : Int) := of_decide_eq_true hd
    simp [RT.okAt, RT.letter]; omega
  · have h2 : ¬ byteAt s 0 ≤ (57 : Int) := of_decide_eq_false hd
    simp [RT.digit]; omega
  · have h1 : ¬ (48 : Int) ≤ byteAt s 0 := of_decide_eq_false hc
    simp [RT.digit]; omega
end VU
end Go.Proofs
