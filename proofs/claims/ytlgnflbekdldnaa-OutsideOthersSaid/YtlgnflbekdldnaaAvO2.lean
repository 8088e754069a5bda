/- Layer 57: right rules; the laws. -/
import Derived.Test.YtlgnflbekdldnaaAvO1
set_option linter.unusedVariables false
set_option maxRecDepth 4000
namespace Go.Proofs
open Go Go.AV
namespace OV
open VU
attribute [local irreducible] Runs
/-! ### The same as no value -/
theorem m182z (l : List ByteArray) : Try.m182.R (l, []) (decide ((l.length : Int) = 0)) := by
  refine U.run_len (U.run_len (U.run_ite (fun hb => U.run_ret ?_) (fun hb => U.run_len (U.run_jump ?_))))
  · show _ = _
    refine (decide_eq_false ?_).symm
    intro h; simp at hb; simp at h; exact hb h
  · show Ev _ _ _
    have h : l = [] := by simpa using hb
    subst h
    exact Ev.intro (U.run_f rfl (U.run_ret rfl))
theorem m183z (l : List GVal) (f : Try.Clo58) : Try.m183.R (l, [], f) (decide ((l.length : Int) = 0)) := by
  refine U.run_len (U.run_len (U.run_ite (fun hb => U.run_ret ?_) (fun hb => U.run_len (U.run_jump ?_))))
  · show _ = _
    refine (decide_eq_false ?_).symm
    intro h; simp at hb; simp at h; exact hb h
  · show Ev _ _ _
    have h : l = [] := by simpa using hb
    subst h
    exact Ev.intro (U.run_f rfl (U.run_ret rfl))
def isz (v : GVal) : Bool := decide (v.Kind = 0) && decide (v.Num = 0) && decide (v.Text = ⟨#[]⟩) && decide ((v.Items.length : Int) = 0) && decide ((v.Keys.length : Int) = 0)
theorem m115z (v : GVal) : Try.m115.R (v, FU.zero) (isz v) := by
  refine ⟨1, ?_⟩
  show Runs (Try.a115 (Try.n115 0).1 (Try.n115 0).2 v FU.zero) _
  refine U.run_ite (fun h1 => U.run_ite (fun h2 => U.run_ite (fun h3 => U.run_call _ (m182z v.Keys) (U.run_ite (fun h4 => U.run_call _ (m183z v.Items _) (U.run_ret ?_)) (fun h4 => U.run_ret ?_))) (fun h3 => U.run_ret ?_)) (fun h2 => U.run_ret ?_)) (fun h1 => U.run_ret ?_)
  all_goals show _ = isz v
  all_goals unfold isz
  · rw [strEq_iff] at h3
    have a1 : v.Kind = 0 := by have h1' : (v.Kind == 0) = true := h1; simpa using h1'
    have a2 : v.Num = 0 := by have h2' : (v.Num == 0) = true := h2; simpa using h2'
    have a3 : v.Text = ⟨#[]⟩ := of_decide_eq_true h3
    rw [h4, decide_eq_true a1, decide_eq_true a2, decide_eq_true a3]; simp
  · rw [h4]; simp
  · rw [strEq_iff] at h3
    have a3 : ¬ v.Text = ⟨#[]⟩ := of_decide_eq_false h3
    rw [decide_eq_false a3]; simp
  · have a2 : ¬ v.Num = 0 := by have h2' : (v.Num == 0) = false := h2; simpa using h2'
    rw [decide_eq_false a2]; simp
  · have a1 : ¬ v.Kind = 0 := by have h1' : (v.Kind == 0) = false := h1; simpa using h1'
    rw [decide_eq_false a1]; simp
theorem wf_isz (v : GVal) (h : right v = true) : isz v = decide (v.Kind = 0) := by
  unfold right at h
  rw [Bool.and_eq_true] at h
  rcases VV.wf_kinds false v with ⟨hk, hw⟩ | ⟨hk, hw⟩ | ⟨hk, hw⟩ | ⟨hk, hw⟩ | ⟨hk, hw⟩ | ⟨hk, hw⟩ | ⟨hk, hw⟩ | ⟨⟨k0, k1, k2, k6, k3, k4, k5⟩, hw⟩
  · rw [hw] at h
    have := h.2
    unfold isz
    rw [hk]; rw [decide_eq_true (rfl : (0 : Int) = 0), Bool.true_and]; exact this
  all_goals (unfold isz; first | (rw [hk]; rfl) | (rw [decide_eq_false k0]; rfl))
/-! ### Names, identifiers -/
theorem m227 (c : Int) : Try.m227.R c (RT.letter c) := by
  show Runs (Try.a227 c) _
  unfold Try.a227
  repeat' (first | refine U.run_ite (fun hb => ?_) (fun hb => ?_) | refine U.run_ret ?_)
  all_goals (show _ = _; rw [Bool.eq_iff_iff]; simp [RT.letter, beqI] at *; try omega)
theorem sz0 (s : ByteArray) : strEq s ⟨#[]⟩ = decide ((s.size : Int) = 0) := by
  rw [strEq_iff]
  by_cases h : s = ⟨#[]⟩
  · rw [decide_eq_true h, decide_eq_true (by rw [RT.size_zero.2 h]; rfl)]
  · rw [decide_eq_false h, decide_eq_false (fun h2 => h (RT.size_zero.1 (by omega)))]
def nm (s : ByteArray) : Bool := (List.range s.size).all (RT.okAt s) && (decide (1 ≤ (s.size : Int)) && decide ((s.size : Int) ≤ 64))
theorem nm_eq (s : ByteArray) : nm s = RT.nameOk s := by
  unfold nm RT.nameOk
  rw [Bool.eq_iff_iff]
  simp only [Bool.and_eq_true, decide_eq_true_eq]
  constructor
  · rintro ⟨h1, h2, h3⟩; exact ⟨⟨by omega, by omega⟩, h1⟩
  · rintro ⟨⟨h2, h3⟩, h1⟩; exact ⟨h1, by omega, by omega⟩
theorem m205 (s : ByteArray) (hs : s.size ≤ reachBytes) : Try.m205.R s (RT.nameOk s) := by
  rw [← nm_eq]
  refine U.run_jump ?_
  show Ev _ _ _
  refine (U.ev_for (List.range s.size) (fun i (_ : Unit) => Try.J205.s0 s s.size i) (fun _ _ => True) (fun r _ => r.all (RT.okAt s) && (decide (1 ≤ (s.size : Int)) && decide ((s.size : Int) ≤ 64))) (by rw [List.length_range]; have := reach_eq; omega) ?_ ?_ () trivial :)
  · intro _ _
    refine U.run_f (by rw [List.length_range]; exact U.dec_f) (U.run_ite (fun hb => U.run_ret ?_) (fun hb => U.run_ret ?_))
    · show _ = _
      rw [sz0, Bool.not_eq_true'] at hb
      have := of_decide_eq_false hb
      rw [List.all_nil, Bool.true_and, decide_eq_true (show 1 ≤ (s.size : Int) by omega), Bool.true_and]
    · show _ = _
      rw [sz0, Bool.not_eq_false'] at hb
      have := of_decide_eq_true hb
      rw [List.all_nil, Bool.true_and, decide_eq_false (by omega)]; rfl
  · intro i hi _ _ hw ht x r hx hm y hy ih
    rw [List.length_range] at ht hi
    rw [List.getElem_range] at hx
    subst hx
    have hout : Ev Try.c205 (.s0 s s.size (IntKind.i64.wrap ((i : Int) + 1))) y ∨ RT.okAt s i = false := by
      cases ho : RT.okAt s i
      · exact .inr rfl
      · left; rw [hw]; refine ih () trivial ?_; rw [hy]; simp [ho]
    have hf : RT.okAt s i = false → false = y := fun ho => by rw [hy]; simp [ho]
    refine U.run_t ht (U.run_byte hi (U.run_call _ (m227 _) ?_))
    rw [Int.toNat_natCast]
    refine U.run_ite (fun hb => ?_) (fun hb => U.run_jump ?_)
    · have hb' : RT.letter (byteAt s i) = false := by simpa using hb
      refine U.run_ite (fun hc => U.run_ret ?_) (fun hc => U.run_byte hi (U.run_ite (fun hd => U.run_ret ?_) (fun hd => U.run_byte hi (U.run_ite (fun he => U.run_ret ?_) (fun he => U.run_jump ?_)))))
      · exact hf (by simp at hc; subst hc; simp [RT.okAt, hb'])
      · exact hf (by simp at hd; simp [RT.okAt, hb', RT.digit]; omega)
      · exact hf (by simp at he; simp [RT.okAt, hb', RT.digit]; omega)
      · show Ev _ _ _
        refine hout.resolve_right ?_
        simp at hc hd he
        simp [RT.okAt, hb', RT.digit]; omega
    · show Ev _ _ _
      have hb' : RT.letter (byteAt s i) = true := by simpa using hb
      exact hout.resolve_right (by simp [RT.okAt, hb'])
def okc (c : Int) : Bool := !decide (c < 33) && !decide (126 < c) && !(c == 47) && !(c == 34)
def ident (s : ByteArray) : Bool := ((List.range s.size).all fun i => okc (byteAt s i)) && (decide (1 ≤ (s.size : Int)) && decide ((s.size : Int) ≤ 64))
theorem m204 (s : ByteArray) (hs : s.size ≤ reachBytes) : Try.m204.R s (ident s) := by
  refine U.run_jump ?_
  show Ev _ _ _
  refine (U.ev_for (List.range s.size) (fun i (_ : Unit) => Try.J204.s0 s s.size i) (fun _ _ => True) (fun r _ => (r.all fun i => okc (byteAt s i)) && (decide (1 ≤ (s.size : Int)) && decide ((s.size : Int) ≤ 64))) (by rw [List.length_range]; have := reach_eq; omega) ?_ ?_ () trivial :)
  · intro _ _
    refine U.run_f (by rw [List.length_range]; exact U.dec_f) (U.run_ite (fun hb => U.run_ret ?_) (fun hb => U.run_ret ?_))
    · show _ = _
      rw [sz0, Bool.not_eq_true'] at hb
      have := of_decide_eq_false hb
      rw [List.all_nil, Bool.true_and, decide_eq_true (show 1 ≤ (s.size : Int) by omega), Bool.true_and]
    · show _ = _
      rw [sz0, Bool.not_eq_false'] at hb
      have := of_decide_eq_true hb
      rw [List.all_nil, Bool.true_and, decide_eq_false (by omega)]; rfl
  · intro i hi _ _ hw ht x r hx hm y hy ih
    rw [List.length_range] at ht hi
    rw [List.getElem_range] at hx
    subst hx
    rw [List.all_cons] at hy
    refine U.run_t ht (U.run_byte hi (U.run_ite (fun hb => U.run_ret ?_) (fun hb => U.run_byte hi (U.run_ite (fun hc => U.run_ret ?_) (fun hc => U.run_byte hi (U.run_ite (fun hd => U.run_ret ?_) (fun hd => U.run_byte hi (U.run_ite (fun he => U.run_ret ?_) (fun he => U.run_jump ?_)))))))))
    · rw [Int.toNat_natCast] at hb; show _ = _; rw [hy]; unfold okc; rw [hb]; rfl
    · rw [Int.toNat_natCast] at hc; show _ = _; rw [hy]; unfold okc; rw [hc]; simp
    · rw [Int.toNat_natCast] at hd; show _ = _; rw [hy]; unfold okc; rw [hd]; simp
    · rw [Int.toNat_natCast] at he; show _ = _; rw [hy]; unfold okc; rw [he]; simp
    · rw [Int.toNat_natCast] at hb hc hd he
      show Ev _ _ _
      rw [hw]; refine ih () trivial ?_
      rw [hy]; unfold okc; rw [hb, hc, hd, he]; rfl
theorem m206 (s : ByteArray) (hs : s.size ≤ reachBytes) : Try.m206.R s (ident s) := by
  refine U.run_jump ?_
  show Ev _ _ _
  refine (U.ev_for (List.range s.size) (fun i (_ : Unit) => Try.J206.s0 s i) (fun _ _ => True) (fun r _ => (r.all fun i => okc (byteAt s i)) && (decide (1 ≤ (s.size : Int)) && decide ((s.size : Int) ≤ 64))) (by rw [List.length_range]; have := reach_eq; omega) ?_ ?_ () trivial :)
  · intro _ _
    refine U.run_f (by rw [List.length_range]; exact U.dec_f) (U.run_ite (fun hb => U.run_ret ?_) (fun hb => U.run_ret ?_))
    · show _ = _; rw [hb]; rfl
    · show _ = _; rw [hb]; rfl
  · intro i hi _ _ hw ht x r hx hm y hy ih
    rw [List.length_range] at ht hi
    rw [List.getElem_range] at hx
    subst hx
    rw [List.all_cons] at hy
    refine U.run_t ht (U.run_byte hi (U.run_ite (fun hb => U.run_ret ?_) (fun hb => U.run_byte hi (U.run_ite (fun hc => U.run_ret ?_) (fun hc => U.run_byte hi (U.run_ite (fun hd => U.run_ret ?_) (fun hd => U.run_byte hi (U.run_ite (fun he => U.run_ret ?_) (fun he => U.run_jump ?_)))))))))
    · rw [Int.toNat_natCast] at hb; show _ = _; rw [hy]; unfold okc; rw [hb]; rfl
    · rw [Int.toNat_natCast] at hc; show _ = _; rw [hy]; unfold okc; rw [hc]; simp
    · rw [Int.toNat_natCast] at hd; show _ = _; rw [hy]; unfold okc; rw [hd]; simp
    · rw [Int.toNat_natCast] at he; show _ = _; rw [hy]; unfold okc; rw [he]; simp
    · rw [Int.toNat_natCast] at hb hc hd he
      show Ev _ _ _
      rw [hw]; refine ih () trivial ?_
      rw [hy]; unfold okc; rw [hb, hc, hd, he]; rfl
/-! ### Right rules -/
def vf (x : GRule) : Bool := if x.Fails = 0 ∧ x.Failure = ⟨#[]⟩ then true else decide (0 < x.Fails) && decide (x.Fails ≤ 1000) && ident x.Failure
def ve (x : GRule) : Bool := right x.Result && (!x.Echo || decide (x.Result.Kind = 0))
def vr (x : GRule) : Bool := RT.nameOk x.Name && vf x && decide (0 ≤ x.Ticks) && decide (x.Ticks ≤ 1099511627776) && ve x
theorem m159 (x : GRule) (hx : x.ok) : Try.m159.R x (vr x) := by
  have hs1 : ∀ f e, f = vf x → e = ve x → Ev Try.c159 (.s1 x f e) (vr x) := by
    intro f e hf he
    refine Ev.intro (U.run_call _ (m205 x.Name hx.1) (U.run_ite (fun h1 => U.run_ite (fun h2 => U.run_ite (fun h3 => U.run_ite (fun h4 => U.run_ret ?_) (fun h4 => U.run_ret ?_)) (fun h3 => U.run_ret ?_)) (fun h2 => U.run_ret ?_)) (fun h1 => U.run_ret ?_)))
    · show _ = _; unfold vr; rw [h1, ← hf, h2, h3, h4, he]; simp
    · show _ = _; unfold vr; rw [h4]; simp
    · show _ = _; unfold vr; rw [h3]; simp
    · show _ = _; unfold vr; rw [← hf, h2]; simp
    · show _ = _; unfold vr; rw [h1]; simp
  have hs0 : ∀ f, f = vf x → Ev Try.c159 (.s0 x f) (vr x) := by
    intro f hf
    refine Ev.intro (U.run_call _ (m140 x.Result hx.2.2.2.2.2.1) (U.run_ite (fun h1 => U.run_ite (fun h2 => U.run_jump ?_) (fun h2 => U.run_call _ (U.run_ret rfl : Try.m176.R () FU.zero) (U.run_call _ (m115z x.Result) (U.run_jump ?_)))) (fun h1 => U.run_jump ?_)))
    · exact hs1 _ _ hf (by unfold ve; rw [h1, h2]; rfl)
    · exact hs1 _ _ hf (by unfold ve; rw [h1, h2, wf_isz _ h1]; rfl)
    · exact hs1 _ _ hf (by unfold ve; rw [h1]; rfl)
  have hF := m204 x.Failure hx.2.2.1
  have hnot : ∀ h : ¬ (x.Fails = 0 ∧ x.Failure = ⟨#[]⟩), vf x = (decide (0 < x.Fails) && decide (x.Fails ≤ 1000) && ident x.Failure) := fun h => by unfold vf; rw [if_neg h]
  refine U.run_ite (fun h1 => U.run_ite (fun h2 => U.run_jump ?_) (fun h2 => U.run_ite (fun h3 => U.run_ite (fun h4 => U.run_call _ hF (U.run_jump ?_)) (fun h4 => U.run_jump ?_)) (fun h3 => U.run_jump ?_))) (fun h1 => U.run_ite (fun h3 => U.run_ite (fun h4 => U.run_call _ hF (U.run_jump ?_)) (fun h4 => U.run_jump ?_)) (fun h3 => U.run_jump ?_))
  · rw [strEq_iff] at h2
    exact hs0 _ (by unfold vf; rw [if_pos ⟨by simpa using h1, of_decide_eq_true h2⟩])
  · rw [strEq_iff] at h2
    exact hs0 _ (by rw [hnot (fun h => of_decide_eq_false h2 h.2), h3, h4]; simp)
  · rw [strEq_iff] at h2
    exact hs0 _ (by rw [hnot (fun h => of_decide_eq_false h2 h.2), h4]; simp)
  · rw [strEq_iff] at h2
    exact hs0 _ (by rw [hnot (fun h => of_decide_eq_false h2 h.2), h3]; simp)
  · have h1' : ¬ x.Fails = 0 := by simpa using h1
    exact hs0 _ (by rw [hnot (fun h => h1' h.1), h3, h4]; simp)
  · have h1' : ¬ x.Fails = 0 := by simpa using h1
    exact hs0 _ (by rw [hnot (fun h => h1' h.1), h4]; simp)
  · have h1' : ¬ x.Fails = 0 := by simpa using h1
    exact hs0 _ (by rw [hnot (fun h => h1' h.1), h3]; simp)
theorem m160 (x : GRule) (hx : x.ok) : Try.m160.R x (vr x) := by
  have hF := m206 x.Failure hx.2.2.1
  refine U.run_call _ (m135 x.Name) (U.run_ite (fun h1 => U.run_ret ?_) (fun h1 => U.run_ite (fun h2 => U.run_ret ?_) (fun h2 => U.run_ite (fun h3 => U.run_ret ?_) (fun h3 => U.run_ite (fun h4 => U.run_ret ?_) (fun h4 => U.run_ite (fun h5 => U.run_ret ?_) (fun h5 => U.run_call _ (m148 x.Result hx.2.2.2.2.2.1) (U.run_ite (fun h6 => U.run_ret ?_) (fun h6 => ?_))))))))
  · show _ = _; unfold vr; rw [Bool.not_eq_true'] at h1; rw [h1]; simp
  · show _ = _
    have h2' := of_decide_eq_true h2
    have : vf x = false := by unfold vf; rw [if_neg (by omega), decide_eq_false (by omega)]; rfl
    unfold vr; rw [this]; simp
  · show _ = _
    have h3' := of_decide_eq_true h3
    have : vf x = false := by unfold vf; rw [if_neg (by omega), decide_eq_false (show ¬ x.Fails ≤ 1000 by omega)]; simp
    unfold vr; rw [this]; simp
  · show _ = _
    have h4' := of_decide_eq_true h4
    unfold vr; rw [decide_eq_false (show ¬ 0 ≤ x.Ticks by omega)]; simp
  · show _ = _
    have h5' := of_decide_eq_true h5
    unfold vr; rw [decide_eq_false (show ¬ x.Ticks ≤ 1099511627776 by omega)]; simp
  · show _ = _
    rw [Bool.not_eq_true'] at h6
    unfold vr ve; rw [h6]; simp
  · have h2' := of_decide_eq_false h2
    have h3' := of_decide_eq_false h3
    have h4' := of_decide_eq_false h4
    have h5' := of_decide_eq_false h5
    rw [Bool.not_eq_false'] at h1 h6
    have ev : vr x = (vf x && ve x) := by
      unfold vr; rw [h1, decide_eq_true (show 0 ≤ x.Ticks by omega), decide_eq_true (show x.Ticks ≤ 1099511627776 by omega)]; simp
    have hs0 : vf x = true → Ev Try.c160 (.s0 x) (vr x) := by
      intro hv
      rw [ev, hv]
      refine Ev.intro (U.run_ite (fun h => U.run_ret ?_) (fun h => U.run_ret ?_))
      · show _ = _; unfold ve; rw [h6, h]; rfl
      · show _ = _; unfold ve; rw [h6, h]; rfl
    refine U.run_ite (fun h7 => U.run_ite (fun h8 => U.run_ret ?_) (fun h8 => U.run_f ?_ (U.run_jump ?_))) (fun h7 => U.run_t ?_ (U.run_call _ hF (U.run_ite (fun h9 => U.run_ret ?_) (fun h9 => U.run_jump ?_))))
    · show _ = _
      have h7' : x.Fails = 0 := by simpa using h7
      rw [strEq_iff, Bool.not_eq_true'] at h8
      have : vf x = false := by unfold vf; rw [if_neg (fun h => of_decide_eq_false h8 h.2), decide_eq_false (by omega)]; rfl
      rw [ev, this]; rfl
    · have h7' : x.Fails = 0 := by simpa using h7
      exact decide_eq_false (by omega)
    · have h7' : x.Fails = 0 := by simpa using h7
      rw [strEq_iff, Bool.not_eq_false'] at h8
      exact hs0 (by unfold vf; rw [if_pos ⟨h7', of_decide_eq_true h8⟩])
    · have h7' : ¬ x.Fails = 0 := by simpa using h7
      exact decide_eq_true (by omega)
    · show _ = _
      have h7' : ¬ x.Fails = 0 := by simpa using h7
      rw [Bool.not_eq_true'] at h9
      have : vf x = false := by unfold vf; rw [if_neg (fun h => h7' h.1), h9]; simp
      rw [ev, this]; rfl
    · have h7' : ¬ x.Fails = 0 := by simpa using h7
      rw [Bool.not_eq_false'] at h9
      exact hs0 (by unfold vf; rw [if_neg (fun h => h7' h.1), h9, decide_eq_true (show 0 < x.Fails by omega), decide_eq_true (show x.Fails ≤ 1000 by omega)]; rfl)
def dist : List GRule → (ByteArray → Bool) → Bool
  | [], _ => true
  | x :: r, p => !p x.Name && (vr x && dist r (fun k => p k || strEq x.Name k))
def tr (ks : List ByteArray) : List Bool := ks.map fun _ => true
theorem mgetT_tr (ks : List ByteArray) (k : ByteArray) : mgetT ks (tr ks) false k = decide (k ∈ ks) := by
  unfold mgetT
  cases h : mfind k ks with
  | none => exact (decide_eq_false (mfind_none.1 h)).symm
  | some i =>
    obtain ⟨h1, h2⟩ := mfind_some h
    have hm : k ∈ ks := by
      rw [← h2, List.getD_eq_getElem?_getD, List.getElem?_eq_getElem h1]; exact List.getElem_mem h1
    rw [decide_eq_true hm]
    show (tr ks).getD i false = true
    rw [List.getD_eq_getElem?_getD, tr, List.getElem?_map, List.getElem?_eq_getElem h1]; rfl
theorem mputT_tr (ks : List ByteArray) (k : ByteArray) : mputT ks (tr ks) k true = tr (mputK ks k) := by
  unfold mputT mputK mhas
  cases e : mfind k ks with
  | none => simp [tr]
  | some i =>
    simp only [Option.isSome_some, if_true]
    apply List.ext_getElem
    · simp [tr]
    · intro j q1 q2
      simp only [List.getElem_set, tr, List.getElem_map]
      split <;> rfl
theorem put_or (ks : List ByteArray) (a k : ByteArray) : (decide (k ∈ mputK ks a)) = (decide (k ∈ ks) || strEq a k) := by
  rw [strEq_iff, Bool.eq_iff_iff]
  simp only [Bool.or_eq_true, decide_eq_true_eq, mputK_mem]
  exact or_congr Iff.rfl ⟨Eq.symm, Eq.symm⟩
theorem m86 (l : List GRule) (hl : rok l) : Try.m86.R l (dist l (fun _ => false)) := by
  refine U.run_len (U.run_jump ?_)
  show Ev _ _ _
  have e : dist l (fun _ => false) = dist l (fun k => decide (k ∈ ([] : List ByteArray))) := by congr 1
  rw [e]
  refine (U.ev_for l (fun i (s : List ByteArray) => Try.J86.s0 s (tr s) l l.length i) (fun _ _ => True) (fun r s => dist r (fun k => decide (k ∈ s))) hl.2 ?_ ?_ [] trivial :)
  · intro s _; exact U.run_f U.dec_f (U.run_ret rfl)
  · intro i hi s _ hw ht x r hx hm y hy ih
    rw [dist] at hy
    refine U.run_t ht (U.run_elemX hi hx (U.run_mget (by simp [tr]) (U.run_ite (fun hb => U.run_ret ?_) (fun hb => U.run_call _ (m159 x (hl.1 _ hm)) (U.run_ite (fun hc => U.run_ret ?_) (fun hc => U.run_mput (U.run_jump ?_)))))))
    · rw [mgetT_tr] at hb
      show _ = _; rw [hy, hb]; rfl
    · rw [Bool.not_eq_true'] at hc
      show _ = _; rw [hy, hc]; simp
    · rw [mgetT_tr] at hb
      rw [Bool.not_eq_false'] at hc
      show Ev _ _ _
      rw [hw, mputT_tr]; refine ih _ trivial ?_
      rw [hy, hb, hc]
      show dist r _ = (true && (true && dist r _))
      rw [Bool.true_and, Bool.true_and]; congr 1; funext k; exact put_or ..
theorem m87 (l : List GRule) (hl : rok l) : Try.m87.R l (dist l (fun _ => false)) := by
  refine U.run_jump ?_
  show Ev _ _ _
  have e : dist l (fun _ => false) = dist l (fun k => (l.take 0).any fun z => strEq z.Name k) := by congr 1
  rw [e]
  refine (U.ev_for l (fun i (s : Nat) => Try.J87.s0 l i) (fun i s => s = i) (fun r s => dist r (fun k => (l.take s).any fun z => strEq z.Name k)) hl.2 ?_ ?_ 0 rfl :)
  · intro s _; exact U.run_len (U.run_f U.dec_f (U.run_ret rfl))
  · intro i hi s hs hw ht x r hx hm y hy ih
    subst hs
    rw [dist] at hy
    refine U.run_len (U.run_t ht (U.run_elemX hi hx (U.run_call _ (m160 x (hl.1 _ hm)) (U.run_ite (fun hc => U.run_ret ?_) (fun hc => U.run_jump ?_)))))
    · rw [Bool.not_eq_true'] at hc
      show _ = _; rw [hy, hc]; simp
    · rw [Bool.not_eq_false'] at hc
      show Ev _ _ _
      have hlen : (l.take s).length = s := by rw [List.length_take]; omega
      have hd : dist r (fun k => ((l.take s).any fun z => strEq z.Name k) || strEq x.Name k) = dist r (fun k => (l.take (s + 1)).any fun z => strEq z.Name k) := by
        congr 1; funext k
        rw [List.take_succ_eq_append_getElem hi, hx]; simp
      have hy' : y = (!((l.take s).any fun z => strEq z.Name x.Name) && dist r (fun k => (l.take (s + 1)).any fun z => strEq z.Name k)) := by
        rw [hy, hc, ← hd]; simp
      rw [hy']
      refine (U.ev_for (l.take s) (fun k (_ : Unit) => Try.J87.s1 l s k) (fun _ _ => True) (fun q _ => !(q.any fun z => strEq z.Name x.Name) && dist r (fun k => (l.take (s + 1)).any fun z => strEq z.Name k)) (by have := hl.2; omega) ?_ ?_ () trivial :)
      · intro _ _
        refine U.run_f (by rw [hlen]; exact U.dec_f) (U.run_jump ?_)
        show Ev _ _ _
        rw [hw]; refine ih _ rfl ?_
        simp
      · intro k hk _ _ hw2 ht2 z q hz hzm y2 hy2 ih2
        rw [hlen] at ht2 hk
        rw [List.getElem_take] at hz
        refine U.run_t ht2 (U.run_elemX (by omega) hz (U.run_elemX hi hx (U.run_ite (fun hb => U.run_ret ?_) (fun hb => U.run_jump ?_))))
        · show _ = _; rw [hy2, List.any_cons, hb]; rfl
        · show Ev _ _ _
          rw [hw2]; refine ih2 () trivial ?_
          rw [hy2, List.any_cons, hb]; rfl
/-! ### The example -/
def xz : GRule := GRule.mk (⟨#[112, 97, 121]⟩ : ByteArray) 2 (⟨#[98, 117, 115, 121]⟩ : ByteArray) 3 false (GVal.mk 2 7 (⟨#[]⟩ : ByteArray) [] [])
theorem v7_ok : (GVal.mk 2 7 (⟨#[]⟩ : ByteArray) [] []).ok := ⟨rfl, rfl, by decide, ⟨trivial, by decide⟩, ⟨by simp, by decide⟩, trivial⟩
theorem xz_ok : xz.ok := ⟨by decide, rfl, by decide, rfl, trivial, v7_ok, trivial⟩
theorem rok_xz : rok [xz] := ⟨by simp [xz_ok], by simp⟩
theorem rok_nil : rok [] := ⟨by simp, by simp⟩
theorem m80 : Try.m80.R () true := by
  have c1 := m81 [xz] ⟨#[112, 97, 121]⟩ FU.zero 2 rok_xz (by decide) zero_ok
  have c2 := m81 [xz] ⟨#[112, 97, 121]⟩ FU.zero 3 rok_xz (by decide) zero_ok
  have c3 := m84 [xz] ⟨#[112, 97, 121]⟩ FU.zero rok_xz (by decide) zero_ok
  have c4 := m81 [] ⟨#[120]⟩ (GVal.mk 2 7 (⟨#[]⟩ : ByteArray) [] []) 1 rok_nil (by decide) v7_ok
  have c5 := m86 [xz] rok_xz
  have f1 : OU.findFrom ⟨#[112, 97, 121]⟩ [xz] = xz := by rw [find_cons, if_pos (by decide +kernel)]
  have e1 : OU.of xz FU.zero 2 = ⟨2, 3, ⟨#[98, 117, 115, 121]⟩, FU.zero⟩ := by
    unfold OU.of; rw [if_neg (by decide +kernel), if_neg (by decide +kernel)]; rfl
  have e2 : OU.of xz FU.zero 3 = ⟨1, 3, ⟨#[]⟩, GVal.mk 2 7 (⟨#[]⟩ : ByteArray) [] []⟩ := by
    unfold OU.of; rw [if_pos (by decide +kernel)]; rfl
  have e3 : OU.fin xz FU.zero = (GVal.mk 2 7 (⟨#[]⟩ : ByteArray) [] [], true) := by
    unfold OU.fin; rw [if_neg (by decide +kernel)]; rfl
  have e4 : OU.of (OU.findFrom ⟨#[120]⟩ []) (GVal.mk 2 7 (⟨#[]⟩ : ByteArray) [] []) 1 = ⟨1, 1, ⟨#[]⟩, GVal.mk 2 7 (⟨#[]⟩ : ByteArray) [] []⟩ := by
    show OU.of (OU.dflt _) _ _ = _
    unfold OU.of; rw [if_pos (.inl (by decide))]; rfl
  have e5 : dist [xz] (fun _ => false) = true := by
    have a1 : RT.nameOk xz.Name = true := by decide +kernel
    have a2 : vf xz = true := by
      have : ident xz.Failure = true := by decide +kernel
      unfold vf; rw [this, if_neg (by decide +kernel)]; rfl
    have a3 : ve xz = true := by
      have : right xz.Result = true := by decide +kernel
      unfold ve; rw [this]; rfl
    have : vr xz = true := by unfold vr; rw [a1, a2, a3]; rfl
    rw [dist, this]; rfl
  rw [f1, e1] at c1
  rw [f1, e2] at c2
  rw [f1, e3] at c3
  rw [e4] at c4
  rw [e5] at c5
  refine U.run_bld (U.run_call _ c1 (U.run_call _ c2 (U.run_call _ c3 (U.run_call _ c4 (U.run_call _ c5 (U.run_t rfl (U.run_t rfl (U.run_t rfl (U.run_t ?_ (U.run_t rfl (U.run_t rfl (U.run_t rfl (U.run_t rfl (U.run_t rfl (U.run_t rfl (U.run_ret ?_))))))))))))))))
  · simp [strEq_iff]
  · rfl
/-! ### The laws -/
theorem res_ok {r : GRule} {arg : GVal} (hr : r.ok) (ha : arg.ok) : (OU.res r arg).ok := by unfold OU.res; split; exact ha; exact hr.2.2.2.2.2.1
theorem of_ok {r : GRule} {arg : GVal} {k : Int} (hr : r.ok) (ha : arg.ok) : (OU.of r arg k).Data.ok := by
  unfold OU.of; split
  · exact res_ok hr ha
  · split <;> exact zero_ok
theorem fin_ok {r : GRule} {arg : GVal} (hr : r.ok) (ha : arg.ok) : (OU.fin r arg).1.ok := by
  unfold OU.fin; split
  · exact zero_ok
  · exact res_ok hr ha
theorem rok_of {l : List GRule} (hl : (∀ x ∈ l, x.ok) ∧ l.length * 136 ≤ reachBytes) : rok l := ⟨hl.1, by have := hl.2; have := reach_eq; omega⟩
theorem law19 (l : List GRule) (hl : (∀ x ∈ l, x.ok) ∧ l.length * 136 ≤ reachBytes) (name : ByteArray) (hn : name.size ≤ reachBytes) (arg : GVal) (ha : arg.ok) (k : Int) : Try.m19.R (l, name, arg, k) true := by
  have hr := rok_of hl
  have ho := OU.find_ok name hn l hl.1
  refine U.run_call _ (m79 l arg hr ha) (U.run_ite (fun _ => U.run_call _ m80 (U.run_ret rfl)) (fun _ => U.run_ite (fun _ => U.run_call _ m80 (U.run_ret rfl)) (fun _ => ?_)))
  refine U.run_call _ (m81 l name arg k hr hn ha) (U.run_call _ (m83 l hl.2) (U.run_call _ (m82 l name arg k hr) (U.run_call _ (m84 l name arg hr hn ha) (U.run_call _ (m83 l hl.2) (U.run_call _ (m85 l name arg hr) (U.run_call _ (m86 l hr) (U.run_call _ (m83 l hl.2) (U.run_call _ (m87 l hr) ?_))))))))
  refine U.run_t (by simp) (U.run_t (by simp) (U.run_t (by simp) (U.run_t (by simp [strEq_iff]) (U.run_call _ (m56 _ (of_ok ho ha)) (U.run_t rfl (U.run_call _ (m56 _ (fin_ok ho ha)) (U.run_t rfl (U.run_t (by simp) (U.run_call _ m80 (U.run_ret rfl))))))))))
theorem of_kind (r : GRule) (arg : GVal) (k : Int) : (((OU.of r arg k).Kind == 1) = true ∧ (r.Fails < 1 ∨ r.Fails < k) ∧ OU.of r arg k = ⟨1, r.Ticks, ⟨#[]⟩, OU.res r arg⟩) ∨ (((OU.of r arg k).Kind == 1) = false ∧ ¬ (r.Fails < 1 ∨ r.Fails < k)) := by
  unfold OU.of
  by_cases h : r.Fails < 1 ∨ r.Fails < k
  · rw [if_pos h]; exact .inl ⟨rfl, h, rfl⟩
  · rw [if_neg h]; refine .inr ⟨?_, h⟩; split <;> rfl
theorem fin_cases (r : GRule) (arg : GVal) : (OU.fin r arg).2 = false ∨ (OU.fin r arg = (OU.res r arg, true) ∧ (r.Fails < 1 ∨ r.Fails < 1000)) := by
  unfold OU.fin
  split
  · exact .inl rfl
  · rename_i h; exact .inr ⟨rfl, by omega⟩
theorem law20 (l : List GRule) (hl : (∀ x ∈ l, x.ok) ∧ l.length * 136 ≤ reachBytes) (name : ByteArray) (hn : name.size ≤ reachBytes) (arg : GVal) (ha : arg.ok) (m n : Int) : Try.m20.R (l, name, arg, m, n) true := by
  have hr := rok_of hl
  have ho := OU.find_ok name hn l hl.1
  have c1 := m81 l name arg m hr hn ha
  have c2 := m81 l name arg n hr hn ha
  have c3 := m84 l name arg hr hn ha
  have c4 := m81 l name arg 1000 hr hn ha
  generalize OU.findFrom name l = r at ho c1 c2 c3 c4
  have hres := res_ok ho ha
  have hs0 : Ev Try.c20 (.s0 l name arg (OU.of r arg m)) true := by
    refine Ev.intro (U.run_call _ c3 (U.run_call _ c4 ?_))
    rcases fin_cases r arg with hf | ⟨hf, h1⟩
    · exact U.run_t (by rw [hf]; rfl) (U.run_t (by rw [hf]; rfl) (U.run_call _ m80 (U.run_ret rfl)))
    · rw [hf]
      have e4 : OU.of r arg 1000 = ⟨1, r.Ticks, ⟨#[]⟩, OU.res r arg⟩ := by unfold OU.of; rw [if_pos h1]
      rw [e4]
      refine U.run_f rfl (U.run_t rfl (U.run_call _ (m56 _ hres) (U.run_t rfl (U.run_f rfl (U.run_ite (fun _ => U.run_call _ m80 (U.run_ret rfl)) (fun hb => ?_))))))
      rcases of_kind r arg m with ⟨h2, h3, h4⟩ | ⟨h2, _⟩
      · rw [h4]
        exact U.run_call _ (m56 _ hres) (U.run_t rfl (U.run_call _ m80 (U.run_ret rfl)))
      · rw [bne, h2] at hb; cases hb
  refine U.run_call _ (m79 l arg hr ha) (U.run_ite (fun _ => U.run_call _ m80 (U.run_ret rfl)) (fun _ => U.run_ite (fun _ => U.run_call _ m80 (U.run_ret rfl)) (fun _ => U.run_ite (fun _ => U.run_call _ m80 (U.run_ret rfl)) (fun hm => U.run_ite (fun _ => U.run_call _ m80 (U.run_ret rfl)) (fun hmn => U.run_call _ c1 (U.run_call _ c2 ?_))))))
  refine U.run_ite (fun hb => ?_) (fun hb => U.run_jump hs0)
  have hmn' := of_decide_eq_false hmn
  dsimp only at hmn'
  rcases of_kind r arg m with ⟨h2, h3, h4⟩ | ⟨h2, _⟩
  · have e2 : OU.of r arg n = ⟨1, r.Ticks, ⟨#[]⟩, OU.res r arg⟩ := by unfold OU.of; rw [if_pos (by omega)]
    have hs0' := hs0
    rw [h4] at hs0' ⊢
    rw [e2]
    exact U.run_f rfl (U.run_call _ (m56 _ hres) (U.run_f rfl (U.run_f (by simp) (U.run_jump hs0'))))
  · rw [h2] at hb; cases hb
theorem run_frzo {P : Program} {J Y : Type} {K : J ⊕ Y → Prop} {a b c : Nat} {k : Cert P J Y} (h : Runs k K) : Runs (.frzo a b c k) K := by unfold Runs; exact h
theorem law21 (l : List GRule) (hl : (∀ x ∈ l, x.ok) ∧ l.length * 136 ≤ reachBytes) (more : GRule) (hm : more.ok) (name : ByteArray) (hn : name.size ≤ reachBytes) (arg : GVal) (ha : arg.ok) (k : Int) : Try.m21.R (l, more, name, arg, k) true := by
  have hr := rok_of hl
  have hr1 : rok [more] := ⟨by simp [hm], by simp⟩
  have hr2 : rok ([more] ++ l) := ⟨fun x hx => by
    rcases List.mem_append.1 hx with h | h
    · rw [List.mem_singleton.1 h]; exact hm
    · exact hl.1 x h, by have := hl.2; have := reach_eq; simp; omega⟩
  have ho := OU.find_ok name hn l hl.1
  refine U.run_call _ (m79 l arg hr ha) (U.run_ite (fun _ => U.run_call _ m80 (U.run_ret rfl)) (fun _ => U.run_bld (U.run_call _ (m79 [more] arg hr1 ha) (U.run_ite (fun _ => U.run_call _ m80 (U.run_ret rfl)) (fun _ => U.run_ite (fun _ => U.run_call _ m80 (U.run_ret rfl)) (fun _ => U.run_ite (fun _ => U.run_call _ m80 (U.run_ret rfl)) (fun hb => U.run_bld (U.run_app ?_ (run_frzo ?_)))))))))
  · have := hl.2; have := reach_eq; simp; omega
  have ef : OU.findFrom name ([more] ++ l) = OU.findFrom name l := by
    show OU.findFrom name (more :: l) = _
    rw [find_cons, if_neg (by rw [hb]; decide)]
  have c2 := m81 ([more] ++ l) name arg k hr2 hn ha
  have c4 := m84 ([more] ++ l) name arg hr2 hn ha
  rw [ef] at c2 c4
  refine U.run_call _ (m81 l name arg k hr hn ha) (U.run_call _ c2 (U.run_call _ (m84 l name arg hr hn ha) (U.run_call _ c4 ?_)))
  refine U.run_t (by simp) (U.run_t (by simp) (U.run_t (by simp [strEq_iff]) (U.run_call _ (m56 _ (of_ok ho ha)) (U.run_t rfl (U.run_call _ (m56 _ (fin_ok ho ha)) (U.run_t rfl (U.run_t (by simp) (U.run_call _ m80 (U.run_ret rfl)))))))))
end OV
theorem Try.k19 (l : List GRule) (hl : (∀ x ∈ l, x.ok) ∧ l.length * 136 ≤ reachBytes) (name : ByteArray) (hn : name.size ≤ reachBytes) (arg : GVal) (ha : arg.ok) (k : Int) : AV.Spec Try.prog 19 [.one (.sl (l.map GRule.cs)), .one (.str name), .agg arg.cs, .one (.int .i64 k)] [.one (.c (.bool true))] :=
  SpecG.toSpec (ds := [.one (.sl (l.map GRule.cs)), .one (.str name), .agg arg.cs, .one (.int .i64 k)]) (Try.m19.ok (l, name, arg, k) true (OV.law19 l hl name hn arg ha k))
theorem Try.k20 (l : List GRule) (hl : (∀ x ∈ l, x.ok) ∧ l.length * 136 ≤ reachBytes) (name : ByteArray) (hn : name.size ≤ reachBytes) (arg : GVal) (ha : arg.ok) (m n : Int) : AV.Spec Try.prog 20 [.one (.sl (l.map GRule.cs)), .one (.str name), .agg arg.cs, .one (.int .i64 m), .one (.int .i64 n)] [.one (.c (.bool true))] :=
  SpecG.toSpec (ds := [.one (.sl (l.map GRule.cs)), .one (.str name), .agg arg.cs, .one (.int .i64 m), .one (.int .i64 n)]) (Try.m20.ok (l, name, arg, m, n) true (OV.law20 l hl name hn arg ha m n))
theorem Try.k21 (l : List GRule) (hl : (∀ x ∈ l, x.ok) ∧ l.length * 136 ≤ reachBytes) (more : GRule) (hm : more.ok) (name : ByteArray) (hn : name.size ≤ reachBytes) (arg : GVal) (ha : arg.ok) (k : Int) : AV.Spec Try.prog 21 [.one (.sl (l.map GRule.cs)), .agg more.cs, .one (.str name), .agg arg.cs, .one (.int .i64 k)] [.one (.c (.bool true))] :=
  SpecG.toSpec (ds := [.one (.sl (l.map GRule.cs)), .agg more.cs, .one (.str name), .agg arg.cs, .one (.int .i64 k)]) (Try.m21.ok (l, more, name, arg, k) true (OV.law21 l hl more hm name hn arg ha k))
end Go.Proofs
