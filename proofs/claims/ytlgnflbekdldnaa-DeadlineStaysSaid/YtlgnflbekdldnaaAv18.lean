/- Regions of open order, the end: the swap, and the rule. -/
import Derived.Test.YtlgnflbekdldnaaAv17
set_option linter.unusedVariables false
set_option linter.unusedSimpArgs false
namespace Go.AV
open Go.RowKit

section
variable {B : Nat → Prop} {nt : Nat} {w0 w : World} {s s' : AS} {a : Act} {gv : GV} {P : Program} {o : Oper} {K : AS → Prop}

/-- Some frame is in this state. -/
def Real (B : Nat → Prop) (nt : Nat) (w0 : World) (s : AS) : Prop := ∃ a w, Sim B nt w0 s a w

/-- The handles of new blocks are the slot's own. -/
def Out.home (b : Nat) : Out → Prop
  | .make h _ _ => h = b
  | .built _ h _ _ => h = b
  | .call _ base _ _ => base = b
  | _ => True

theorem aOut_home {out : Out} (h : aOut P o s (· = out)) : out.home (hnd o.dst) := by
  unfold aOut at h
  split at h
  case h_13 =>
    split at h
    · split at h
      · obtain ⟨_, rfl⟩ := h; trivial
      · exact h.elim
    · split at h
      · subst h; trivial
      · exact h.elim
    · split at h
      · rename_i p hx hy ti T ht hT
        have : T true ∨ T false := by
          unfold nilTest at hT
          split at hT
          · cases hT; exact .inl rfl
          · cases hT; exact .inr (fun _ => rfl)
          · cases hT
        rcases this with hh | hh <;> (have := h.2.2.2 _ hh; subst this; trivial)
      · exact h.elim
    · exact h.elim
  all_goals
    (repeat' first | (obtain ⟨_, h⟩ := h) | (split at h))
    all_goals first
      | exact h.elim
      | trivial
      | rfl
      | (subst h; first | trivial | rfl)

theorem nat_ne (d e k k' : Nat) (h : d ≠ e) (hk : k ≤ 900) (hk' : k' ≤ 900) : 1000 * d + k ≠ 1000 * e + k' := by omega
theorem hnd_ne {d e : Tmp} (h : d ≠ e) {k k' : Nat} (hk : k ≤ 900) (hk' : k' ≤ 900) : hnd (some d) + k ≠ hnd (some e) + k' := nat_ne d e k k' h hk hk'

theorem f_home {out : Out} {b : Nat} (h : out.home b) (hq : out.quiet) {i : Nat} (hi : out.f i ≠ none) : ∃ k, k ≤ 900 ∧ i = b + k := by
  cases out with
  | val => exact absurd rfl hi
  | make h' bl v =>
    simp only [Out.home] at h; subst h
    simp only [Out.f] at hi
    split at hi
    · exact ⟨0, by omega, by omega⟩
    · exact absurd rfl hi
  | built l h' bl v =>
    simp only [Out.home] at h; subst h
    simp only [Out.f] at hi
    split at hi
    · exact ⟨0, by omega, by omega⟩
    · exact absurd rfl hi
  | call l base rs v =>
    simp only [Out.home] at h; subst h
    simp only [Out.f, newOf] at hi
    split at hi
    · rename_i hh
      exact ⟨i - base, by have := hq.2; omega, by omega⟩
    · exact absurd rfl hi
  | store => exact hq.elim

theorem gOut_home {ops : Array Oper} {out : Out} (h : gOut P ops o s out) : out.home (hnd o.dst) := by
  unfold gOut at h
  split at h
  · exact aOut_home h
  · split at h
    · split at h
      · split at h
        · exact aOut_home h
        · subst h; trivial
      · subst h; trivial
      · exact h.elim
    · exact h.elim

theorem agree_quiet {out : Out} (hq : out.quiet) (d : Option Tmp) : Agree s (out.apply s d) := by
  intro h v hv
  rw [apply_eq hq, put_H]
  simp only [AS.newB]
  rw [if_neg (by omega)]

theorem N_quiet {out : Out} (hq : out.quiet) (d : Option Tmp) (i : Nat) (hi : out.f i = none) : (out.apply s d).N i = s.N i := by
  rw [apply_eq hq, put_N]
  simp [AS.newB, hi]

theorem aOut_fieldAddr (hm : isFieldAddr o = true) (hev : ∀ x ∈ o.op.operands.toList, s'.ev x = s.ev x) (hH : ∀ h v, s'.H h v = none ↔ s.H h v = none) (out : Out) :
    (aOut P o s' (· = out) ↔ aOut P o s (· = out)) ∧ (aOut P o s (· = out) → ∃ v, out = .val v) := by
  unfold isFieldAddr at hm
  split at hm
  · rename_i t p f hop
    have hpk : ∀ k x, s'.ptrOk k x ↔ s.ptrOk k x := by
      intro k x
      cases x with
      | ptr h v off => exact not_congr (hH h v)
      | eptr h v sz i j => exact not_congr (hH h v)
      | c y => cases y <;> rfl
      | _ => rfl
    unfold aOut
    rw [hop]
    simp only [hev p (by simp [hop, Op.operands]), hpk]
    refine ⟨trivial, fun h => ?_⟩
    split at h
    · obtain ⟨_, h⟩ := h
      split at h
      · exact ⟨_, h.2.2.symm⟩
      · exact h.elim
    · exact h.elim
  · cases hm

theorem gOut_val {ops : Array Oper} {out : Out} (h : gOut P ops o s out) (hv : aOut P o s (· = out) → ∃ v, out = .val v) : ∃ v, out = .val v := by
  unfold gOut at h
  split at h
  · exact hv h
  · split at h
    · split at h
      · split at h
        · exact hv h
        · exact ⟨_, h⟩
      · exact ⟨_, h⟩
      · exact h.elim
    · exact h.elim

/-- A store leaves a block that was there. -/
theorem store_out {out : Out} {ops : Array Oper} (hm : isStore o = true) (h : gOut P ops o s out) (hd : dynOk o out) : o.dst = none → (out.apply s o.dst = s ∧ ∃ v, out = .val v) ∨ ∃ i v b, out = .store [] i v b ∧ s.H i v ≠ none := by
  intro hdst
  have key : aOut P o s (· = out) → ∃ l i v b, out = .store l i v b ∧ s.H i v ≠ none := by
    intro h
    unfold isStore at hm
    split at hm
    · rename_i t p x hop
      unfold aOut at h
      rw [hop] at h
      obtain ⟨_, h⟩ := h
      split at h
      · rename_i ti h' v off cs _ _ _
        split at h
        · rename_i cells hH
          exact ⟨_, _, _, _, h.2.symm, by rw [hH]; simp⟩
        · exact h.elim
      · rename_i ti h' v sz i j cs _ _ _
        split at h
        · rename_i E sz' xs ys hH _
          exact ⟨_, _, _, _, h.2.symm, by rw [hH]; simp⟩
        · exact h.elim
      · exact h.elim
    · cases hm
  have fin : aOut P o s (· = out) → (out.apply s o.dst = s ∧ ∃ v, out = .val v) ∨ ∃ i v b, out = .store [] i v b ∧ s.H i v ≠ none := by
    intro h
    obtain ⟨l, i, v, b, rfl, hH⟩ := key h
    obtain ⟨_, hl, _⟩ := hd
    simp only at hl
    subst hl
    exact .inr ⟨i, v, b, rfl, hH⟩
  unfold gOut at h
  split at h
  · exact fin h
  · split at h
    · split at h
      · split at h
        · exact fin h
        · subst h; left; rw [hdst]; exact ⟨rfl, _, rfl⟩
      · subst h; left; rw [hdst]; exact ⟨rfl, _, rfl⟩
      · exact h.elim
    · exact h.elim

/-- THE SWAP: two operations that do not touch each other. -/
theorem swap {ops : Array Oper} {x y : Oper} (hr : Real B nt w0 s) (hi : indep ops x y = true) (hst : ∀ o : Oper, (o = x ∨ o = y) → isStore o = true → o.dst = none) {ox oy : Out} (h1 : gOut P ops x s ox) (q1 : dynOk x ox) (h2 : gOut P ops y (ox.apply s x.dst) oy) (q2 : dynOk y oy) :
    gOut P ops y s oy ∧ gOut P ops x (oy.apply s y.dst) ox ∧ ox.apply (oy.apply s y.dst) x.dst = oy.apply (ox.apply s x.dst) y.dst := by
  obtain ⟨a, w, gv, hs⟩ := hr
  unfold indep at hi
  simp only [Bool.and_eq_true] at hi
  obtain ⟨⟨hix, hiy⟩, hi⟩ := hi
  have lx : ∀ t ∈ looks ops y, x.dst ≠ some t := by
    intro t ht e
    rw [e] at hix
    simp only [Bool.and_eq_true, Bool.not_eq_true', List.contains_eq_mem, decide_eq_false_iff_not] at hix
    exact hix.1 ht
  have ly : ∀ t ∈ looks ops x, y.dst ≠ some t := by
    intro t ht e
    rw [e] at hiy
    simp only [Bool.and_eq_true, Bool.not_eq_true', List.contains_eq_mem, decide_eq_false_iff_not] at hiy
    exact hiy.1 ht
  have hne : ∀ d e, x.dst = some d → y.dst = some e → d ≠ e := by
    intro d e hd he hde
    rw [hd] at hix
    simp only [Bool.and_eq_true, bne_iff_ne, ne_eq] at hix
    exact hix.2 (by rw [he, hde])
  have evx : ∀ (s : AS) (out : Out), ∀ z ∈ y.op.operands.toList, (out.apply s x.dst).ev z = s.ev z := fun s out z hz => ev_apply (fun t e => lx t (mem_looks (e ▸ hz)))
  have evy : ∀ (s : AS) (out : Out), ∀ z ∈ x.op.operands.toList, (out.apply s y.dst).ev z = s.ev z := fun s out z hz => ev_apply (fun t e => ly t (mem_looks (e ▸ hz)))
  simp only [Bool.or_eq_true, Bool.and_eq_true, Bool.not_eq_true'] at hi
  rcases hi with (((⟨⟨⟨nx, ny⟩, dx⟩, dy⟩ | ⟨⟨wx, my⟩, dy⟩) | ⟨⟨mx, wy⟩, dx⟩) | ⟨⟨sx, fy⟩, dy⟩) | ⟨⟨fx, sy⟩, dx⟩
  · -- both quiet
    obtain ⟨d, hd⟩ := Option.isSome_iff_exists.1 dx
    obtain ⟨e, he⟩ := Option.isSome_iff_exists.1 dy
    have hde := hne d e hd he
    have qx := q1.1 nx
    have qy := q2.1 ny
    have homex := gOut_home h1
    have homey := gOut_home h2
    have fx : ∀ k, k ≤ 900 → ox.f (hnd y.dst + k) = none := by
      intro k hk
      rcases Option.eq_none_or_eq_some (ox.f (hnd y.dst + k)) with h | ⟨b, h⟩
      · exact h
      · obtain ⟨k', hk', he'⟩ := f_home homex qx (i := hnd y.dst + k) (by rw [h]; simp)
        rw [hd, he] at he'
        exact absurd he'.symm (hnd_ne hde hk' hk)
    have fy : ∀ k, k ≤ 900 → oy.f (hnd x.dst + k) = none := by
      intro k hk
      rcases Option.eq_none_or_eq_some (oy.f (hnd x.dst + k)) with h | ⟨b, h⟩
      · exact h
      · obtain ⟨k', hk', he'⟩ := f_home homey qy (i := hnd x.dst + k) (by rw [h]; simp)
        rw [hd, he] at he'
        exact absurd he' (hnd_ne hde hk hk')
    have e1 := (gOut_of (P := P) (o := y) (s := s) (ops := ops) x.dst lx (out0 := ox) (out := oy) (aOut_congr hs (agree_quiet qx _) (evx s ox) (fun k hk => N_quiet qx _ _ (fx k hk)) oy q2.2.2)).1 h2
    refine ⟨e1, (gOut_of (P := P) (o := x) (s := s) (ops := ops) y.dst ly (out0 := oy) (out := ox) (aOut_congr hs (agree_quiet qy _) (evy s oy) (fun k hk => N_quiet qy _ _ (fy k hk)) ox q1.2.2)).2 h1, ?_⟩
    have hdis : ∀ i, oy.f i = none ∨ ox.f i = none := by
      intro i
      rcases Option.eq_none_or_eq_some (oy.f i) with h | ⟨b, h⟩
      · exact .inl h
      · right
        obtain ⟨k, hk, rfl⟩ := f_home homey qy (i := i) (by rw [h]; simp)
        exact fx k hk
    rw [apply_eq qx, apply_eq qy, apply_eq qy, apply_eq qx, put_newB, put_newB, newB_newB s oy.f ox.f hdis, hd, he]
    exact put_put _ e d _ _ (fun h => hde h.symm)
  · -- x writes, y looks at slots alone
    obtain ⟨e, he⟩ := Option.isSome_iff_exists.1 dy
    have c1 := aOut_memless (P := P) (s := s) (s' := ox.apply s x.dst) my (evx s ox) oy
    have e1 := (gOut_of (P := P) (o := y) (s := s) (ops := ops) x.dst lx (out0 := ox) (out := oy) c1.1).1 h2
    obtain ⟨v, rfl⟩ := gOut_val e1 c1.2
    refine ⟨e1, (gOut_of (P := P) (o := x) (s := s) (ops := ops) y.dst ly (out0 := .val v) (out := ox) (aOut_congr hs (fun h u _ => by simp only [Out.apply, put_H]) (evy s _) (fun k hk => by simp only [Out.apply, put_N]) ox q1.2.2)).2 h1, ?_⟩
    simp only [Out.apply] at *
    rw [he]
    exact put_apply s e v ox x.dst (fun h => hne e e h he rfl)
  · -- x looks at slots alone, y writes
    obtain ⟨d, hd⟩ := Option.isSome_iff_exists.1 dx
    have c1 := aOut_memless (P := P) (s := s) (s' := oy.apply s y.dst) mx (evy s oy) ox
    obtain ⟨v, rfl⟩ := gOut_val h1 c1.2
    have e1 := (gOut_of (P := P) (o := y) (s := s) (ops := ops) x.dst lx (out0 := .val v) (out := oy) (aOut_congr hs (fun h u _ => by simp only [Out.apply, put_H]) (evx s _) (fun k hk => by simp only [Out.apply, put_N]) oy q2.2.2)).1 h2
    refine ⟨e1, (gOut_of (P := P) (o := x) (s := s) (ops := ops) y.dst ly (out0 := oy) (out := .val v) c1.1).2 h1, ?_⟩
    simp only [Out.apply] at *
    rw [hd]
    exact (put_apply s d v oy y.dst (fun h => hne d d hd h rfl)).symm
  · -- x stores, y computes a field's address
    obtain ⟨e, he⟩ := Option.isSome_iff_exists.1 dy
    have hxn := hst x (.inl rfl) sx
    have hHx : ∀ h v, (ox.apply s x.dst).H h v = none ↔ s.H h v = none := by
      rcases store_out sx h1 q1 hxn with ⟨hh, _⟩ | ⟨i, v, b, rfl, hl⟩
      · intro h v; rw [hh]
      · intro h u
        simp only [Out.apply, AS.kills, List.foldl_nil, AS.set]
        by_cases hc : h = i ∧ u = v
        · obtain ⟨rfl, rfl⟩ := hc; simp [hl]
        · simp [hc]
    have c1 := aOut_fieldAddr (P := P) (s := s) (s' := ox.apply s x.dst) fy (evx s ox) hHx oy
    have e1 := (gOut_of (P := P) (o := y) (s := s) (ops := ops) x.dst lx (out0 := ox) (out := oy) c1.1).1 h2
    obtain ⟨v, rfl⟩ := gOut_val e1 c1.2
    refine ⟨e1, (gOut_of (P := P) (o := x) (s := s) (ops := ops) y.dst ly (out0 := .val v) (out := ox) (aOut_congr hs (fun h u _ => by simp only [Out.apply, put_H]) (evy s _) (fun k hk => by simp only [Out.apply, put_N]) ox q1.2.2)).2 h1, ?_⟩
    simp only [Out.apply] at *
    rw [he]
    exact put_apply s e v ox x.dst (fun h => hne e e h he rfl)
  · obtain ⟨d, hd⟩ := Option.isSome_iff_exists.1 dx
    have hyn := hst y (.inr rfl) sy
    have c0 := aOut_fieldAddr (P := P) (s := s) (s' := s) fx (fun _ _ => rfl) (fun _ _ => Iff.rfl) ox
    obtain ⟨v, rfl⟩ := gOut_val h1 c0.2
    have e1 := (gOut_of (P := P) (o := y) (s := s) (ops := ops) x.dst lx (out0 := .val v) (out := oy) (aOut_congr hs (fun h u _ => by simp only [Out.apply, put_H]) (evx s _) (fun k hk => by simp only [Out.apply, put_N]) oy q2.2.2)).1 h2
    have hHy : ∀ h v, (oy.apply s y.dst).H h v = none ↔ s.H h v = none := by
      rcases store_out sy e1 q2 hyn with ⟨hh, _⟩ | ⟨i, v, b, rfl, hl⟩
      · intro h v; rw [hh]
      · intro h u
        simp only [Out.apply, AS.kills, List.foldl_nil, AS.set]
        by_cases hc : h = i ∧ u = v
        · obtain ⟨rfl, rfl⟩ := hc; simp [hl]
        · simp [hc]
    have c1 := aOut_fieldAddr (P := P) (s := s) (s' := oy.apply s y.dst) fx (evy s oy) hHy (.val v)
    refine ⟨e1, (gOut_of (P := P) (o := x) (s := s) (ops := ops) y.dst ly (out0 := oy) (out := .val v) c1.1).2 h1, ?_⟩
    simp only [Out.apply] at *
    rw [hd]
    exact (put_apply s d v oy y.dst (fun h => hne d d hd h rfl)).symm

end
end Go.AV
