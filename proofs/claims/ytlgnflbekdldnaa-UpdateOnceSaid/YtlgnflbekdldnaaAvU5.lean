/- Updates: what the printed walks compute. -/
import Derived.Test.YtlgnflbekdldnaaAvTW
import Derived.Test.YtlgnflbekdldnaaAvU4
set_option linter.unusedVariables false
set_option maxRecDepth 4000
namespace Go.Proofs
open Go Go.AV
namespace UP
open VU
attribute [local irreducible] Runs
def lok (l : List GAdmit) : Prop := (∀ x ∈ l, x.ok) ∧ l.length * 112 ≤ reachBytes
theorem lok_len {l : List GAdmit} (h : lok l) : l.length ≤ 4611686018427387904 := by have := h.2; have := reach_eq; omega
def small (l : List GAdmit) : Bool := decide ((l.length : Int) ≤ 220) && l.all fun a => decide (VV.sz a.Data ≤ 200)
theorem m69 (l : List GAdmit) (hl : lok l) : Try.m69.R l (small l) := by
  refine U.run_len (U.run_ite (fun hb => U.run_ret ?_) (fun hb => U.run_jump ?_))
  · show _ = _
    have := of_decide_eq_true hb
    unfold small; rw [decide_eq_false (by omega)]; rfl
  show Ev _ _ _
  have e : small l = l.all fun a => decide (VV.sz a.Data ≤ 200) := by
    have := of_decide_eq_false hb
    unfold small; rw [decide_eq_true (by omega)]; rfl
  rw [e]
  refine (U.ev_for l (fun i (_ : Unit) => Try.J69.s0 l i) (fun _ _ => True) (fun r _ => r.all fun a => decide (VV.sz a.Data ≤ 200)) (lok_len hl) ?_ ?_ () trivial :)
  · intro _ _; exact U.run_len (U.run_f U.dec_f (U.run_ret rfl))
  · intro i hi _ _ hw ht x r hx hm y hy ih
    refine U.run_len (U.run_t ht (U.run_elemX hi hx (U.run_call _ (m70 x.Data (hl.1 _ hm).2.2.1) (U.run_ite (fun hc => U.run_ret ?_) (fun hc => U.run_jump ?_)))))
    · show _ = _
      have := of_decide_eq_true hc
      rw [hy, List.all_cons, decide_eq_false (by omega)]; rfl
    · show Ev _ _ _
      have := of_decide_eq_false hc
      rw [hw]; refine ih () trivial ?_
      rw [hy, List.all_cons, decide_eq_true (show VV.sz x.Data ≤ 200 by omega)]; rfl
/-! ### Identifiers -/
def okc (c : Int) : Bool := !decide (c < 33) && !decide (126 < c) && !(c == 47) && !(c == 34)
def ident (s : ByteArray) : Bool := (bytesL s).all okc && (decide (1 ≤ (s.size : Int)) && decide ((s.size : Int) ≤ 64))
theorem bytesL_at (s : ByteArray) (i : Nat) (h : i < (bytesL s).length) : byteAt s i = (bytesL s)[i] := by
  have h' : i < s.data.toList.length := by rwa [bytesL, List.length_map] at h
  have e : (bytesL s)[i] = ((s.data.toList[i].toNat : Nat) : Int) := List.getElem_map ..
  rw [e]
  unfold byteAt
  rw [List.getD_eq_getElem?_getD, List.getElem?_eq_getElem h']; rfl
theorem sz0 (s : ByteArray) : strEq s ⟨#[]⟩ = decide ((s.size : Int) = 0) := by
  rw [strEq_iff]
  by_cases h : s = ⟨#[]⟩
  · rw [decide_eq_true h, decide_eq_true (by rw [RT.size_zero.2 h]; rfl)]
  · rw [decide_eq_false h, decide_eq_false (fun h2 => h (RT.size_zero.1 (by omega)))]
theorem m138 (s : ByteArray) (hs : s.size ≤ reachBytes) : Try.m138.R s (ident s) := by
  have hl : (bytesL s).length ≤ 4611686018427387904 := by rw [bytesL_length]; have := reach_eq; omega
  refine U.run_len (U.run_jump ?_)
  show Ev _ _ _
  refine (U.ev_for (bytesL s) (fun i (_ : Unit) => Try.J138.s0 s (bytesL s) (bytesL s).length i) (fun _ _ => True) (fun r _ => r.all okc && (decide (1 ≤ (s.size : Int)) && decide ((s.size : Int) ≤ 64))) hl ?_ ?_ () trivial :)
  · intro _ _
    refine U.run_f U.dec_f (U.run_ite (fun hb => U.run_ret ?_) (fun hb => U.run_ret ?_))
    · show _ = _
      rw [sz0, Bool.not_eq_true'] at hb
      have := of_decide_eq_false hb
      rw [List.all_nil, Bool.true_and, decide_eq_true (show 1 ≤ (s.size : Int) by omega), Bool.true_and]
    · show _ = _
      rw [sz0, Bool.not_eq_false'] at hb
      have := of_decide_eq_true hb
      rw [List.all_nil, Bool.true_and, decide_eq_false (by omega)]; rfl
  · intro i hi _ _ hw ht x r hx hm y hy ih
    rw [List.all_cons] at hy
    refine U.run_t ht (U.run_elemX hi hx (U.run_ite (fun hb => U.run_ret ?_) (fun hb => U.run_ite (fun hc => U.run_ret ?_) (fun hc => U.run_ite (fun hd => U.run_ret ?_) (fun hd => U.run_ite (fun he => U.run_ret ?_) (fun he => U.run_jump ?_))))))
    · show _ = _; rw [hy]; unfold okc; rw [hb]; rfl
    · show _ = _; rw [hy]; unfold okc; rw [hc]; simp
    · show _ = _; rw [hy]; unfold okc; rw [hd]; simp
    · show _ = _; rw [hy]; unfold okc; rw [he]; simp
    · show Ev _ _ _
      rw [hw]; refine ih () trivial ?_
      rw [hy]; unfold okc; rw [hb, hc, hd, he]; rfl
theorem m147 (s : ByteArray) (hs : s.size ≤ reachBytes) : Try.m147.R s (ident s) := by
  have hl : (bytesL s).length ≤ 4611686018427387904 := by rw [bytesL_length]; have := reach_eq; omega
  refine U.run_jump ?_
  show Ev _ _ _
  refine (U.ev_for (bytesL s) (fun i (_ : Unit) => Try.J147.s0 s i) (fun _ _ => True) (fun r _ => r.all okc && (decide (1 ≤ (s.size : Int)) && decide ((s.size : Int) ≤ 64))) hl ?_ ?_ () trivial :)
  · intro _ _
    refine U.run_f (by rw [bytesL_length]; exact U.dec_f) (U.run_ite (fun hb => U.run_ret ?_) (fun hb => U.run_ret ?_))
    · show _ = _
      rw [hb]; rfl
    · show _ = _
      rw [hb]; rfl
  · intro i hi _ _ hw ht x r hx hm y hy ih
    rw [List.all_cons] at hy
    have hbx : byteAt s ((i : Int)).toNat = x := by rw [Int.toNat_natCast, bytesL_at s i hi, hx]
    have hi' : i < s.size := by rwa [bytesL_length] at hi
    rw [bytesL_length] at ht
    refine U.run_t ht (U.run_byte hi' (U.run_ite (fun hb => U.run_ret ?_) (fun hb => U.run_byte hi' (U.run_ite (fun hc => U.run_ret ?_) (fun hc => U.run_byte hi' (U.run_ite (fun hd => U.run_ret ?_) (fun hd => U.run_byte hi' (U.run_ite (fun he => U.run_ret ?_) (fun he => U.run_jump ?_)))))))))
    · show _ = _; rw [hbx] at hb; rw [hy]; unfold okc; rw [hb]; rfl
    · show _ = _; rw [hbx] at hc; rw [hy]; unfold okc; rw [hc]; simp
    · show _ = _; rw [hbx] at hd; rw [hy]; unfold okc; rw [hd]; simp
    · show _ = _; rw [hbx] at he; rw [hy]; unfold okc; rw [he]; simp
    · show Ev _ _ _
      rw [hbx] at hb hc hd he
      rw [hw]; refine ih () trivial ?_
      rw [hy]; unfold okc; rw [hb, hc, hd, he]; rfl
/-! ### Which keys are known -/
theorem idx223 (s : List GAdmit) (f : Try.Clo182) (p : GAdmit → Bool) (hp : ∀ x ∈ s, f.R x (p x)) (hl : s.length ≤ 4611686018427387904) : Try.m223.R (s, f) (idxF p s 0) := by
  refine U.run_len (U.run_jump ?_)
  show Ev _ _ _
  refine (U.ev_for s (fun i (k : Nat) => Try.J223.s0 s f s.length i) (fun i k => k = i) (fun l k => idxF p l k) hl ?_ ?_ 0 rfl :)
  · intro k _; exact U.run_f U.dec_f (U.run_ret rfl)
  · intro i hi k hk hw ht x r hx hm y hy ih
    refine U.run_t ht (U.run_elemX hi hx (U.run_call _ (hp _ hm) ?_))
    refine U.run_ite (fun hb => U.run_ret ?_) (fun hb => U.run_jump ?_)
    · show (i : Int) = y
      rw [hy, idxF, if_pos hb, hk]
    · show Ev _ _ _
      rw [hw]; refine ih (i + 1) rfl ?_
      rw [hy, idxF, if_neg (by rw [hb]; decide), hk]; rfl
theorem idx199 (s : List GUpd) (f : Try.Clo180) (p : GUpd → Bool) (hp : ∀ x ∈ s, f.R x (p x)) (hl : s.length ≤ 4611686018427387904) : Try.m199.R (s, f) (idxF p s 0) := by
  refine U.run_len (U.run_jump ?_)
  show Ev _ _ _
  refine (U.ev_for s (fun i (k : Nat) => Try.J199.s0 s f s.length i) (fun i k => k = i) (fun l k => idxF p l k) hl ?_ ?_ 0 rfl :)
  · intro k _; exact U.run_f U.dec_f (U.run_ret rfl)
  · intro i hi k hk hw ht x r hx hm y hy ih
    refine U.run_t ht (U.run_elemX hi hx (U.run_call _ (hp _ hm) ?_))
    refine U.run_ite (fun hb => U.run_ret ?_) (fun hb => U.run_jump ?_)
    · show (i : Int) = y
      rw [hy, idxF, if_pos hb, hk]
    · show Ev _ _ _
      rw [hw]; refine ih (i + 1) rfl ?_
      rw [hy, idxF, if_neg (by rw [hb]; decide), hk]; rfl
theorem idx151 (s : List GEvent) (f : Try.Clo137) (p : GEvent → Bool) (hp : ∀ x ∈ s, f.R x (p x)) (hl : s.length ≤ 4611686018427387904) : Try.m151.R (s, f) (idxF p s 0) := by
  refine U.run_len (U.run_jump ?_)
  show Ev _ _ _
  refine (U.ev_for s (fun i (k : Nat) => Try.J151.s0 s f s.length i) (fun i k => k = i) (fun l k => idxF p l k) hl ?_ ?_ 0 rfl :)
  · intro k _; exact U.run_f U.dec_f (U.run_ret rfl)
  · intro i hi k hk hw ht x r hx hm y hy ih
    refine U.run_t ht (U.run_elemX hi hx (U.run_call _ (hp _ hm) ?_))
    refine U.run_ite (fun hb => U.run_ret ?_) (fun hb => U.run_jump ?_)
    · show (i : Int) = y
      rw [hy, idxF, if_pos hb, hk]
    · show Ev _ _ _
      rw [hw]; refine ih (i + 1) rfl ?_
      rw [hy, idxF, if_neg (by rw [hb]; decide), hk]; rfl
def listed (l : List GAdmit) (k : ByteArray) : Bool := l.any fun a => strEq a.Key k
theorem m141 (l : List GAdmit) (k : ByteArray) (hl : l.length ≤ 4611686018427387904) : Try.m141.R (l, k) (listed l k) := by
  refine U.run_call _ (U.run_call _ (idx223 l _ (fun a => strEq a.Key k) (fun x _ => U.run_ret rfl) hl) (U.run_ret (idxF_any _ l 0 (by decide)))) (U.run_ret rfl)
theorem m149 (l : List GAdmit) (k : ByteArray) (hl : l.length ≤ 4611686018427387904) : Try.m149.R (l, k) (listed l k) := by
  refine U.run_jump ?_
  show Ev _ _ _
  refine (U.ev_for l (fun i (_ : Unit) => Try.J149.s0 l k i) (fun _ _ => True) (fun r _ => listed r k) hl ?_ ?_ () trivial :)
  · intro _ _; exact U.run_len (U.run_f U.dec_f (U.run_ret rfl))
  · intro i hi _ _ hw ht x r hx hm y hy ih
    refine U.run_len (U.run_t ht (U.run_elemX hi hx (U.run_ite (fun hb => U.run_ret ?_) (fun hb => U.run_jump ?_))))
    · show _ = _; rw [hy]; unfold listed; rw [List.any_cons, hb]; rfl
    · show Ev _ _ _
      rw [hw]; refine ih () trivial ?_
      rw [hy]; unfold listed; rw [List.any_cons, hb]; rfl
/-! ### Keeping -/
theorem m146 (a : GAdmit) (ha : a.ok) : Try.m146.R a a := by
  refine U.run_call _ (m153 a.Data ha.2.2.1) (U.run_ret ?_)
  cases a; rfl
theorem m144 (l : List GAdmit) (f : Try.Clo182) (p : GAdmit → Bool) (hl : lok l) (hp : ∀ x ∈ l, f.R x (p x)) : Try.m144.R (l, f) (l.filter p) := by
  refine U.run_len (U.run_adT (U.run_jump ?_))
  show Ev _ _ _
  refine (U.ev_for l (fun i s => Try.J144.s0 f s l l.length i) (fun i s => s.length ≤ i) (fun r s => s ++ r.filter p) (lok_len hl) ?_ ?_ [] (Nat.le_refl _) :)
  · intro s _
    exact U.run_f U.dec_f (U.run_ret (List.append_nil s).symm)
  · intro i hi s hs hw ht x r hx hm y hy ih
    refine U.run_t ht (U.run_elemX hi hx (U.run_call _ (hp _ hm) (U.run_ite (fun hb => U.run_call _ (m146 x (hl.1 _ hm)) (U.run_bld (U.run_app ?_ (U.run_jump ?_)))) (fun hb => U.run_jump ?_))))
    · have := hl.2; have := reach_eq; simp; omega
    · show Ev _ _ _
      rw [hw]; refine ih _ (by simp; omega) ?_
      rw [hy, List.filter_cons_of_pos hb, List.append_assoc]; rfl
    · show Ev _ _ _
      rw [hw]; refine ih _ (by omega) ?_
      rw [hy, List.filter_cons_of_neg (by rw [hb]; decide)]
/-! ### Admission -/
def known (l : List GAdmit) (p : GPending) (k : ByteArray) : Bool := listed l k || p.Updates.any fun u => strEq u.Key k
def admit (l : List GAdmit) (p : GPending) (a : GAdmit) : List GAdmit × Bool × Int :=
  if ident a.Key = false then ([], false, 8) else if RT.nameOk a.Name = false then ([], false, 8) else if right a.Data = false then ([], false, 12)
  else if known l p a.Key = true then (l, true, 0) else if (p.Status != 0) = true then ([], false, 17) else if decide (200 ≤ (l.length : Int)) = true then ([], false, 18) else (l ++ [a], false, 0)
theorem filt {α : Type} (l : List α) : l.filter (fun _ => true) = l := List.filter_eq_self.2 (fun _ _ => rfl)
theorem m71 (l : List GAdmit) (p : GPending) (a : GAdmit) (hl : lok l) (hp : p.Updates.length * 24 ≤ reachBytes) (ha : a.ok) :
    Try.m71.R (l, p, a) (admit l p a) := by
  have hk : ∀ b, b = known l p a.Key → ident a.Key = true → RT.nameOk a.Name = true → right a.Data = true →
      Ev Try.c71 (.s0 l p a b) (admit l p a) := by
    intro b hb h1 h2 h3
    unfold admit
    rw [h1, h2, h3, if_neg (by decide), if_neg (by decide), if_neg (by decide), ← hb]
    have keep := m144 l ⟨145, [], fun a b => Try.m145.R a b, fun a b h => Try.m145.ok a b h⟩ (fun _ => true) hl (fun x _ => U.run_ret rfl)
    rw [filt] at keep
    refine Ev.intro (U.run_ite (fun hb => U.run_call _ keep (U.run_ret ?_)) (fun hb => U.run_ite (fun hc => U.run_ret ?_) (fun hc => U.run_len (U.run_ite (fun hd => U.run_ret ?_) (fun hd => U.run_call _ keep (U.run_call _ (m146 a ha) (U.run_bld (U.run_app ?_ (U.run_ret ?_)))))))))
    · show _ = _; rw [if_pos hb]
    · show _ = _; rw [if_neg (by rw [hb]; decide), if_pos hc]
    · show _ = _; rw [if_neg (by rw [hb]; decide), if_neg (by rw [hc]; decide), if_pos hd]
    · have := of_decide_eq_false hd; simp; omega
    · show _ = _; rw [if_neg (by rw [hb]; decide), if_neg (by rw [hc]; decide), if_neg (by rw [hd]; decide)]
  refine U.run_call _ (m138 a.Key ha.1) (U.run_ite (fun hb => U.run_ret ?_) (fun hb => U.run_call _ (m139 a.Name) (U.run_ite (fun hc => U.run_ret ?_) (fun hc => U.run_call _ (m140 a.Data ha.2.2.1) (U.run_ite (fun hd => U.run_ret ?_) (fun hd => U.run_call _ (m141 l a.Key (lok_len hl)) (U.run_ite (fun he => U.run_jump ?_) (fun he => ?_))))))))
  · show _ = _; unfold admit; rw [if_pos (by simpa using hb)]
  · show _ = _; unfold admit; rw [if_neg (by simpa using hb), if_pos (by simpa using hc)]
  · show _ = _; unfold admit; rw [if_neg (by simpa using hb), if_neg (by simpa using hc), if_pos (by simpa using hd)]
  · show Ev _ _ _
    exact hk _ (by unfold known; rw [he]; rfl) (by simpa using hb) (by simpa using hc) (by simpa using hd)
  · refine U.run_call _ (U.run_call _ (idx199 p.Updates _ (fun u => strEq u.Key a.Key) (fun x _ => U.run_ret rfl) (by have := reach_eq; omega)) (U.run_ret (idxF_any _ _ 0 (by decide)))) (U.run_jump ?_)
    show Ev _ _ _
    exact hk _ (by unfold known; rw [he]; rfl) (by simpa using hb) (by simpa using hc) (by simpa using hd)
theorem m72 (l : List GAdmit) (p : GPending) (a : GAdmit) (hl : lok l) (hp : p.Updates.length * 24 ≤ reachBytes) (ha : a.ok) :
    Try.m72.R (l, p, a) (admit l p a) := by
  refine U.run_call _ (m147 a.Key ha.1) (U.run_ite (fun hb => U.run_ret ?_) (fun hb => U.run_call _ (m135 a.Name) (U.run_ite (fun hc => U.run_ret ?_) (fun hc => U.run_call _ (m148 a.Data ha.2.2.1) (U.run_ite (fun hd => U.run_ret ?_) (fun hd => U.run_call _ (m149 l a.Key (lok_len hl)) (U.run_jump ?_)))))))
  · show _ = _; unfold admit; rw [if_pos (by simpa using hb)]
  · show _ = _; unfold admit; rw [if_neg (by simpa using hb), if_pos (by simpa using hc)]
  · show _ = _; unfold admit; rw [if_neg (by simpa using hb), if_neg (by simpa using hc), if_pos (by simpa using hd)]
  · show Ev _ _ _
    let G : Bool → List GAdmit × Bool × Int := fun k => if k = true then (l, true, 0) else if (p.Status != 0) = true then ([], false, 17) else if decide (200 ≤ (l.length : Int)) = true then ([], false, 18) else (l ++ [a], false, 0)
    have e : admit l p a = G (listed l a.Key || p.Updates.any fun u => strEq u.Key a.Key) := by
      unfold admit; rw [if_neg (by simpa using hb), if_neg (by simpa using hc), if_neg (by simpa using hd)]; rfl
    rw [e]
    refine (U.ev_for p.Updates (fun i k => Try.J72.s0 l p a k i) (fun _ _ => True) (fun r k => G (k || r.any fun u => strEq u.Key a.Key)) (by have := reach_eq; omega) ?_ ?_ (listed l a.Key) trivial :)
    · intro k _
      rw [List.any_nil, Bool.or_false]
      refine U.run_len (U.run_f U.dec_f (U.run_ite (fun hb => U.run_ret ?_) (fun hb => U.run_ite (fun hc => U.run_ret ?_) (fun hc => U.run_len (U.run_ite (fun hd => U.run_ret ?_) (fun hd => U.run_app ?_ (U.run_bld (U.run_app ?_ (U.run_ret ?_)))))))))
      · show _ = _; show _ = if _ then _ else _; rw [if_pos hb]
      · show _ = _; show _ = if _ then _ else _; rw [if_neg (by rw [hb]; decide), if_pos hc]
      · show _ = _; show _ = if _ then _ else _; rw [if_neg (by rw [hb]; decide), if_neg (by rw [hc]; decide), if_pos hd]
      · have := of_decide_eq_false hd; simp; omega
      · have := of_decide_eq_false hd; simp; omega
      · show _ = _; show _ = if _ then _ else _; rw [if_neg (by rw [hb]; decide), if_neg (by rw [hc]; decide), if_neg (by rw [hd]; decide)]; rfl
    · intro i hi k _ hw ht x r hx hm y hy ih
      refine U.run_len (U.run_t ht (U.run_ite (fun hk => U.run_jump ?_) (fun hk => U.run_elemX hi hx (U.run_jump ?_))))
      · show Ev _ _ _
        rw [hw]; refine ih _ trivial ?_
        rw [hy, hk]; simp
      · show Ev _ _ _
        rw [hw]; refine ih _ trivial ?_
        rw [hy, hk]; simp
theorem m73 (l : List GAdmit) (hl : lok l) : Try.m73.R (l, l) true := by
  refine U.run_len (U.run_len (U.run_f (by simp) (U.run_jump ?_)))
  show Ev _ _ _
  refine (U.ev_for l (fun i (_ : Unit) => Try.J73.s0 l l i) (fun _ _ => True) (fun _ _ => true) (lok_len hl) ?_ ?_ () trivial :)
  · intro _ _; exact U.run_len (U.run_f U.dec_f (U.run_ret rfl))
  · intro i hi _ _ hw ht x r hx hm y hy ih
    refine U.run_len (U.run_t ht (U.run_elemX hi hx (U.run_elemX hi hx (U.run_f (by simp [strEq_iff]) (U.run_elemX hi hx (U.run_elemX hi hx (U.run_f (by simp [strEq_iff]) (U.run_elemX hi hx (U.run_elemX hi hx (U.run_call _ (m56 x.Data (hl.1 _ hm).2.2.1) (U.run_f rfl (U.run_jump ?_))))))))))))
    show Ev _ _ _
    rw [hw]; exact ih () trivial hy.symm
end UP
end Go.Proofs
