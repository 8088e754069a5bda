/- Texts Av19. -/
import Derived.Test.YtlgnflbekdldnaaGreatDoorAvK18
set_option linter.unusedVariables false
set_option linter.unusedSimpArgs false
set_option linter.unusedSectionVars false
noncomputable section
namespace Go.AV
open Go.RowKit
section
variable {B : Nat → Prop} {nt : Nat} {w0 : Base} {w : World} {s s' : AS} {a : Act} {gv : GV} {P : Program} {o : Oper} {K : AS → Prop} [InvC P B w0]
def dRun (P : Program) (ops : Array Oper) : List Nat → AS → (AS → Prop) → Prop
  | [], s, K => K s
  | i :: r, s, K => match ops[i]? with
    | some o => ∃ out, gOut P ops o s out ∧ dynOk o out ∧ dRun P ops r (out.apply s o.dst) K
    | none => False
theorem aOut_mono {R R' : Out → Prop} (hR : ∀ x, R x → R' x) (h : aOut P o s R) : aOut P o s R' := by
  unfold aOut at h ⊢
  split at h
  case h_13 =>
    split at h
    · split at h
      · exact ⟨h.1, hR _ h.2⟩
      · exact h.elim
    · split at h
      · exact hR _ h
      · exact h.elim
    · split at h
      · exact ⟨h.1, h.2.1, h.2.2.1, fun b hb => hR _ (h.2.2.2 b hb)⟩
      · exact h.elim
    · split at h
      · exact hR _ h
      · exact h.elim
    · exact h.elim
  case h_20 =>
    obtain ⟨x, t, rfl, rfl, h⟩ := h
    refine ⟨x, t, rfl, rfl, ?_⟩
    split at h
    · split at h
      · exact ⟨h.1, hR _ h.2⟩
      · exact h.elim
    · exact h.elim
  case h_21 =>
    obtain ⟨x, y, rfl, h⟩ := h
    refine ⟨x, y, rfl, ?_⟩
    split at h
    · exact ⟨h.1, hR _ h.2⟩
    · exact h.elim
  case h_22 =>
    obtain ⟨x, y, rfl, h⟩ := h
    refine ⟨x, y, rfl, ?_⟩
    split at h
    · exact ⟨h.1, hR _ h.2⟩
    · exact h.elim
  case h_23 =>
    obtain ⟨x, y, t, rfl, rfl, h⟩ := h
    refine ⟨x, y, t, rfl, rfl, ?_⟩
    split at h
    · split at h
      · split at h
        · split at h
          · exact ⟨h.1, h.2.1, h.2.2.1, h.2.2.2.1, h.2.2.2.2.1, hR _ h.2.2.2.2.2⟩
          · exact h.elim
        · exact h.elim
      · exact h.elim
    · exact h.elim
  case h_24 =>
    split at h
    · split at h
      · obtain ⟨res, h1, kl, h2, h⟩ := h
        exact ⟨res, h1, kl, h2, hR _ h⟩
      · exact h.elim
    · exact h.elim
  case h_18 =>
    split at h
    · split at h
      · obtain ⟨h1, h⟩ := h
        refine ⟨h1, ?_⟩
        split at h
        · exact hR _ h
        · exact h.elim
      · exact h.elim
    · exact h.elim
  case h_19 =>
    split at h
    · split at h
      · split at h
        · obtain ⟨h1, h2, h3, h⟩ := h
          refine ⟨h1, h2, h3, ?_⟩
          split at h
          · split at h
            · exact hR _ h
            · exact h.elim
          · exact h.elim
        · exact h.elim
      · exact h.elim
    · exact h.elim
  case h_3 =>
    split at h
    · exact hR _ h
    · exact h.elim
  case h_5 =>
    obtain ⟨h1, h⟩ := h
    refine ⟨h1, ?_⟩
    split at h
    · exact hR _ h
    · exact h.elim
  case h_7 =>
    obtain ⟨h1, h⟩ := h
    refine ⟨h1, ?_⟩
    split at h
    · split at h
      · exact ⟨h.1, hR _ h.2⟩
      · exact h.elim
    · split at h
      · exact ⟨h.1, hR _ h.2⟩
      · exact h.elim
    · exact h.elim
  case h_8 =>
    split at h
    · obtain ⟨h1, h⟩ := h
      refine ⟨h1, ?_⟩
      split at h
      · exact ⟨h.1, h.2.1, hR _ h.2.2⟩
      · exact h.elim
    · exact h.elim
  case h_9 =>
    split at h
    · obtain ⟨h1, h⟩ := h
      refine ⟨h1, ?_⟩
      split at h
      · split at h
        · exact ⟨h.1, h.2.1, h.2.2.1, hR _ h.2.2.2⟩
        · exact h.elim
      · exact h.elim
    · exact h.elim
  case h_12 =>
    obtain ⟨h1, h⟩ := h
    refine ⟨h1, ?_⟩
    split at h
    · split at h
      · split at h
        · exact ⟨h.1, h.2.1, h.2.2.1, h.2.2.2.1, hR _ h.2.2.2.2⟩
        · exact h.elim
      · exact h.elim
    · exact h.elim
  case h_25 =>
    obtain ⟨out, h1, h2⟩ := h
    exact ⟨out, h1, hR _ h2⟩
  all_goals
    (repeat' (split at h))
    all_goals first
      | exact h.elim
      | exact hR _ h
      | exact ⟨h.1, hR _ h.2⟩
      | exact ⟨h.1, h.2.1, hR _ h.2.2⟩
      | exact ⟨h.1, h.2.1, h.2.2.1, hR _ h.2.2.2⟩
theorem gOut_aG {ops : Array Oper} {out : Out} (h : gOut P ops o s out) : aG P ops o s (fun s' => s' = out.apply s o.dst) := by
  unfold gOut at h
  unfold aG
  have key : aOut P o s (· = out) → aOp P o s (fun s' => s' = out.apply s o.dst) := by
    intro h
    unfold aOp
    exact aOut_mono (fun x hx => by rw [hx]) h
  cases hg : o.guard with
  | none => rw [hg] at h; exact key h
  | some p =>
    obtain ⟨j, want⟩ := p
    rw [hg] at h
    simp only at h ⊢
    split at h
    · rename_i d hd
      simp only [hd]
      split at h
      · rename_i b hb
        simp only [hb]
        split at h
        · rename_i hbw; exact ⟨fun _ => key h, fun hh => by subst hbw; cases b <;> cases hh⟩
        · rename_i hbw; subst h; exact ⟨fun hh => absurd hh hbw, fun _ => rfl⟩
      · rename_i hb; simp only [hb]; subst h; rfl
      · exact h.elim
    · exact h.elim
theorem wp_ex {N : Act → World → Prop} (h : o.wp P a w N (fun _ _ _ => False)) : ∃ a' w', N a' w' := by
  unfold Oper.wp at h
  generalize (execOp a.eval o).run P w = r at h
  cases r with
  | ok n w' =>
    cases n <;> simp only [Oper.upon] at h
    case value => exact ⟨_, _, h⟩
    case skip => exact ⟨_, _, h⟩
    case defer => exact ⟨_, _, h⟩
    case enter =>
      obtain ⟨e, w'', fr, hR, _⟩ := h []
      cases e with
      | returned v => exact ⟨_, _, hR⟩
      | panicked => exact hR.elim
      | outgrown => obtain ⟨_, _, hh⟩ := hR; exact hh.elim
    case row =>
      obtain ⟨v, w'', hR, _⟩ := h default []
      exact ⟨_, _, hR⟩
  | halt x w' => cases x <;> simp only [Oper.upon] at h
theorem Real.step {ops : Array Oper} {out : Out} (hr : Real B nt w0 s) (hd : ∀ x, o.dst = some x → x < nt) (hg : ∀ j b, o.guard = some (j, b) → ∀ d, guardSlot ops j = some d → d < nt) (h : gOut P ops o s out) : Real B nt w0 (out.apply s o.dst) := by
  obtain ⟨a, w, hs⟩ := hr
  have := aG_ok (B := B) (w0 := w0) hd hg (gOut_aG h) hs (fun _ _ _ => False)
  split at this
  · obtain ⟨a', w', s', rfl, hs'⟩ := wp_ex this
    exact ⟨a', w', hs'⟩
  · obtain ⟨s', rfl, hs'⟩ := this
    exact ⟨_, w, hs'⟩
theorem front {ops : Array Oper} (hsl : slotsOk nt ops = true) (hst : ∀ (j : Nat) (o : Oper), ops[j]? = some o → isStore o = true → o.dst = none) (i : Nat) (oi : Oper) (hoi : ops[i]? = some oi) (l2 : List Nat) :
    ∀ (l1 : List Nat) (s : AS), Real B nt w0 s → (∀ j ∈ l1, ∀ oj, ops[j]? = some oj → indep ops oj oi = true) → dRun P ops (l1 ++ i :: l2) s K → dRun P ops (i :: (l1 ++ l2)) s K := by
  intro l1
  induction l1 with
  | nil => intro s _ _ h; exact h
  | cons j l1 ih =>
    intro s hr hind h
    simp only [List.cons_append, dRun] at h
    cases hoj : ops[j]? with
    | none => rw [hoj] at h; exact h.elim
    | some oj =>
      rw [hoj] at h
      obtain ⟨ox, g1, d1, h⟩ := h
      have hr1 := hr.step (slotsOk_get hsl hoj) (fun j' b _ d hd => slotsOk_guard hsl hd) g1
      have h' := ih _ hr1 (fun j' hj' => hind j' (by simp [hj'])) h
      simp only [dRun, hoi] at h'
      obtain ⟨oy, g2, d2, h'⟩ := h'
      obtain ⟨e1, e2, e3⟩ := swap hr (hind j (by simp) oj hoj) (fun o ho hs => by
        rcases ho with rfl | rfl
        · exact hst j _ hoj hs
        · exact hst i _ hoi hs) g1 d1 g2 d2
      simp only [dRun, hoi, List.cons_append, hoj]
      exact ⟨oy, e1, d2, ox, e2, d1, by rw [e3]; exact h'⟩
def direct (ops : Array Oper) (i : Nat) : List Nat :=
  match ops[i]? with
  | some o => (o.after.toList.filter fun e => Region.binds .any e).map (·.on)
  | none => []
def ancs (ops : Array Oper) : List Nat :=
  (List.range ops.size).foldl (fun acc i => acc ++ [(direct ops i).foldl (fun m d => m ||| 2 ^ d ||| acc.getD d 0) 0]) []
def ancOk (ops : Array Oper) (cert : List Nat) : Bool :=
  (List.range ops.size).all fun i => (direct ops i).all (fun d => decide (d < i)) &&
    (List.range ops.size).all fun j => !(cert.getD i 0).testBit j || (direct ops i).any fun d => j == d || (cert.getD d 0).testBit j
def pairsOk (ops : Array Oper) (cert : List Nat) : Bool :=
  (List.range ops.size).all fun i => (List.range i).all fun j => (cert.getD i 0).testBit j ||
    (match ops[j]?, ops[i]? with | some x, some y => indep ops x y | _, _ => false)
def drawOk (ops : Array Oper) : Bool :=
  let cert := ancs ops
  ancOk ops cert && pairsOk ops cert && ops.all fun o => !isNilTest o && (!isStore o || o.dst.isNone)
theorem anc_listed {ops : Array Oper} {cert : List Nat} (hc : ancOk ops cert = true) (L : Nat → Prop) (hcl : ∀ i, i < ops.size → L i → ∀ d ∈ direct ops i, L d) :
    ∀ i, i < ops.size → (∀ d ∈ direct ops i, L d) → ∀ j, j < ops.size → (cert.getD i 0).testBit j = true → L j := by
  intro i
  induction i using Nat.strongRecOn with
  | _ i ih =>
    intro hi hd j hj hb
    have h1 := List.all_eq_true.1 hc i (by simpa using hi)
    simp only [Bool.and_eq_true] at h1
    have h2 := List.all_eq_true.1 h1.2 j (by simpa using hj)
    rw [hb] at h2
    simp only [Bool.not_true, Bool.false_or, List.any_eq_true, Bool.or_eq_true, beq_iff_eq] at h2
    obtain ⟨d, hdm, hjd⟩ := h2
    have hdi : d < i := by simpa using List.all_eq_true.1 h1.1 d hdm
    rcases hjd with rfl | hjd
    · exact hd _ hdm
    · exact ih d hdi (by omega) (hcl d (by omega) (hd d hdm)) j hj hjd
theorem ready_mem {ops : Array Oper} {listed : Array Bool} {i : Nat} (h : i ∈ Region.ready .any ops listed) : i < ops.size ∧ listed.getD i true = false ∧ ∃ o, ops[i]? = some o ∧ ∀ d ∈ direct ops i, listed.getD d false = true := by
  simp only [Region.ready, List.mem_filter, List.mem_range, Bool.and_eq_true, Bool.not_eq_true'] at h
  obtain ⟨h1, h2, h3⟩ := h
  refine ⟨h1, h2, ?_⟩
  cases ho : ops[i]? with
  | none => rw [ho] at h3; simp at h3
  | some o =>
    rw [ho] at h3
    simp only [Option.map_some, Option.getD_some] at h3
    refine ⟨o, rfl, fun d hd => ?_⟩
    simp only [direct, ho, List.mem_map, List.mem_filter] at hd
    obtain ⟨e, ⟨he, hb⟩, rfl⟩ := hd
    have := Array.all_eq_true_iff_forall_mem.1 h3 e (by simpa using he)
    simpa [hb] using this
theorem mem_ready {ops : Array Oper} {listed : Array Bool} {i : Nat} {o : Oper} (hi : i < ops.size) (h2 : listed.getD i true = false) (ho : ops[i]? = some o) (h : ∀ d ∈ direct ops i, listed.getD d false = true) : i ∈ Region.ready .any ops listed := by
  simp only [Region.ready, List.mem_filter, List.mem_range, Bool.and_eq_true, Bool.not_eq_true']
  refine ⟨hi, h2, ?_⟩
  rw [ho]
  simp only [Option.map_some, Option.getD_some]
  refine Array.all_eq_true_iff_forall_mem.2 (fun e he => ?_)
  cases hb : Region.binds .any e with
  | false => rfl
  | true =>
    have := h e.on (by simp only [direct, ho, List.mem_map, List.mem_filter]; exact ⟨e, ⟨by simpa using he, hb⟩, rfl⟩)
    simp [this]
theorem wpAny_of {ops : Array Oper} (hsl : slotsOk nt ops = true) (hok : drawOk ops = true) (Q : Exit → Act → World → Prop) (hQ : ∀ s' a' w', K s' → Sim B nt w0 s' a' w' → Q .normal a' w') :
    ∀ (fuel : Nat) (l : List Nat) (listed : Array Bool) (s : AS) (a : Act) (w : World), l.length = fuel → l.Pairwise (· < ·) → (∀ i ∈ l, i < ops.size) → listed.size = ops.size → (∀ i, i < ops.size → (listed.getD i false = true ↔ i ∉ l)) →
      (∀ i, i < ops.size → listed.getD i false = true → ∀ d ∈ direct ops i, listed.getD d false = true) → Sim B nt w0 s a w → dRun P ops l s K → wpAny P .any ops Q fuel listed a w := by
  simp only [drawOk, Bool.and_eq_true] at hok
  obtain ⟨⟨hanc, hpairs⟩, hall⟩ := hok
  have hst : ∀ (j : Nat) (o : Oper), ops[j]? = some o → isStore o = true → o.dst = none := by
    intro j o ho hs
    have := Array.all_eq_true_iff_forall_mem.1 hall o (Array.mem_of_getElem? ho)
    simp only [Bool.and_eq_true, hs, Bool.not_true, Bool.false_or] at this
    simpa using this.2
  have hdirect : ∀ i, i < ops.size → ∀ d ∈ direct ops i, d < i := by
    intro i hi d hd
    have h1 := List.all_eq_true.1 hanc i (by simpa using hi)
    simp only [Bool.and_eq_true] at h1
    simpa using List.all_eq_true.1 h1.1 d hd
  intro fuel
  induction fuel with
  | zero =>
    intro l listed s a w hl hsorted hlt hsz hlisted hcl hs hrun
    have : l = [] := List.eq_nil_of_length_eq_zero hl
    subst this
    refine ⟨?_, hQ _ _ _ hrun hs⟩
    rw [List.eq_nil_iff_forall_not_mem]
    intro i hi
    obtain ⟨h1, h2, _⟩ := ready_mem hi
    have := (hlisted i h1).2 (by simp)
    simp [Array.getD_eq_getD_getElem?, show i < listed.size by omega] at h2 this
    simp [h2] at this
  | succ fuel ih =>
    intro l listed s a w hl hsorted hlt hsz hlisted hcl hs hrun
    refine ⟨fun hnone => ?_, fun i hi => ?_⟩
    · exfalso
      cases l with
      | nil => simp at hl
      | cons i0 l =>
        have hi0 := hlt i0 (by simp)
        have hmem : i0 ∈ Region.ready .any ops listed := by
          refine mem_ready (o := ops[i0]) hi0 ?_ (by simp [hi0]) (fun d hd => ?_)
          · have : ¬ listed.getD i0 false = true := fun h => ((hlisted i0 hi0).1 h) (by simp)
            simp [Array.getD_eq_getD_getElem?, show i0 < listed.size by omega] at this ⊢
            exact this
          · have hdlt := hdirect i0 hi0 d hd
            refine (hlisted d (by omega)).2 (fun hdm => ?_)
            rcases List.mem_cons.1 hdm with rfl | hdm
            · omega
            · have := List.rel_of_pairwise_cons hsorted hdm
              omega
        rw [hnone] at hmem
        cases hmem
    · obtain ⟨h1, h2, o, ho, h3⟩ := ready_mem hi
      have hil : i ∈ l := by
        rcases Classical.em (i ∈ l) with h | h
        · exact h
        · have := (hlisted i h1).2 h
          simp [Array.getD_eq_getD_getElem?, show i < listed.size by omega] at h2 this
          simp [h2] at this
      obtain ⟨l1, l2, rfl⟩ := List.append_of_mem hil
      have hp := List.pairwise_append.1 hsorted
      have hind : ∀ j ∈ l1, ∀ oj, ops[j]? = some oj → indep ops oj o = true := by
        intro j hj oj hoj
        have hji : j < i := hp.2.2 j hj i (by simp)
        have h4 := List.all_eq_true.1 (List.all_eq_true.1 hpairs i (by simpa using h1)) j (by simpa using hji)
        rw [hoj, ho] at h4
        simp only [Bool.or_eq_true] at h4
        rcases h4 with h4 | h4
        · exfalso
          have := anc_listed hanc (fun k => listed.getD k false = true) hcl i h1 h3 j (by omega) h4
          exact ((hlisted j (by omega)).1 this) (by simp [hj])
        · exact h4
      have hfront := front (B := B) (w0 := w0) hsl hst i o ho l2 l1 s ⟨a, w, hs⟩ hind hrun
      simp only [dRun, ho] at hfront
      obtain ⟨out, g1, d1, hrest⟩ := hfront
      have hg := aG_ok (B := B) (w0 := w0) (slotsOk_get hsl ho) (fun j' b _ d hd => slotsOk_guard hsl hd) (gOut_aG g1) hs Q
      have hsorted' : (l1 ++ l2).Pairwise (· < ·) := by
        refine List.pairwise_append.2 ⟨hp.1, (List.pairwise_cons.1 hp.2.1).2, fun x hx y hy => hp.2.2 x hx y (by simp [hy])⟩
      have hni : i ∉ l1 ++ l2 := by
        intro h
        rcases List.mem_append.1 h with h | h
        · have := hp.2.2 i h i (by simp); omega
        · have := List.rel_of_pairwise_cons hp.2.1 h; omega
      have hlisted' : ∀ j, j < ops.size → ((listed.setIfInBounds i true).getD j false = true ↔ j ∉ l1 ++ l2) := by
        intro j hj
        by_cases hji : j = i
        · subst hji
          simp only [hni, not_false_iff, iff_true]
          simp [Array.getD_eq_getD_getElem?, show j < listed.size by omega]
        · have e1 : (listed.setIfInBounds i true).getD j false = listed.getD j false := by
            simp only [Array.getD_eq_getD_getElem?, Array.getElem?_setIfInBounds]
            rw [if_neg (fun h => hji h.symm)]
          rw [e1, hlisted j hj]
          simp [hji]
      have hcl' : ∀ j, j < ops.size → (listed.setIfInBounds i true).getD j false = true → ∀ d ∈ direct ops j, (listed.setIfInBounds i true).getD d false = true := by
        intro j hj hjl d hd
        have hdj := hdirect j hj d hd
        have hkeep : listed.getD d false = true → (listed.setIfInBounds i true).getD d false = true := by
          intro h
          refine (hlisted' d (by omega)).2 (fun hm => ((hlisted d (by omega)).1 h) ?_)
          rcases List.mem_append.1 hm with hm | hm
          · simp [hm]
          · simp [hm]
        by_cases hji : j = i
        · subst hji; exact hkeep (h3 d hd)
        · have e1 : (listed.setIfInBounds i true).getD j false = listed.getD j false := by
            simp only [Array.getD_eq_getD_getElem?, Array.getElem?_setIfInBounds]
            rw [if_neg (fun h => hji h.symm)]
          exact hkeep (hcl j hj (by rw [← e1]; exact hjl) d hd)
      have hlen : (l1 ++ l2).length = fuel := by simp at hl ⊢; omega
      have hlt' : ∀ j ∈ l1 ++ l2, j < ops.size := fun j hj => hlt j (by
        rcases List.mem_append.1 hj with h | h
        · simp [h]
        · simp [h])
      unfold wpOp
      rw [ho]
      simp only
      split
      · rename_i hw
        rw [if_pos hw] at hg
        left
        exact Oper.wp_mono (fun a' w' ⟨s', e, h⟩ => by
          subst e
          exact ih _ _ _ a' w' hlen hsorted' hlt' (by simpa using hsz) hlisted' hcl' h hrest) hg
      · rename_i hw
        rw [if_neg hw] at hg
        obtain ⟨s', rfl, h⟩ := hg
        exact ih _ _ _ _ w hlen hsorted' hlt' (by simpa using hsz) hlisted' hcl' h hrest
def dG (P : Program) (ops : Array Oper) (o : Oper) (s : AS) (K : AS → Prop) : Prop :=
  match o.guard with
  | none => aOut P o s fun out => dynOk o out ∧ K (out.apply s o.dst)
  | some (j, want) => match guardSlot ops j with
    | some d => match s.t d with
      | .one (.c (.bool b)) => (b = want → aOut P o s fun out => dynOk o out ∧ K (out.apply s o.dst)) ∧ (b = !want → K (s.put o.dst (.tup [])))
      | .tup [] => K (s.put o.dst (.tup []))
      | _ => False
    | none => False
def dWalk (P : Program) (ops : Array Oper) : List Oper → AS → (AS → Prop) → Prop
  | [], s, K => K s
  | o :: r, s, K => dG P ops o s fun s' => dWalk P ops r s' K
theorem dynOk_undef (o : Oper) : dynOk o (.val (.tup [])) := ⟨fun _ => trivial, trivial, trivial⟩
theorem dG_gOut {ops : Array Oper} (hn : isNilTest o = false) (h : dG P ops o s K) : ∃ out, gOut P ops o s out ∧ dynOk o out ∧ K (out.apply s o.dst) := by
  unfold dG at h
  unfold gOut
  cases hg : o.guard with
  | none =>
    rw [hg] at h
    obtain ⟨out, h1, h2, h3⟩ := aOut_ex hn h
    exact ⟨out, h1, h2, h3⟩
  | some p =>
    obtain ⟨j, want⟩ := p
    rw [hg] at h
    simp only at h ⊢
    split at h
    · rename_i d hd
      simp only [hd]
      split at h
      · rename_i b hb
        simp only [hb]
        by_cases hbw : b = want
        · obtain ⟨out, h1, h2, h3⟩ := aOut_ex hn (h.1 hbw)
          exact ⟨out, by rw [if_pos hbw]; exact h1, h2, h3⟩
        · exact ⟨.val (.tup []), by rw [if_neg hbw], dynOk_undef o, h.2 (by cases b <;> cases want <;> simp_all)⟩
      · rename_i hb
        simp only [hb]
        exact ⟨.val (.tup []), rfl, dynOk_undef o, h⟩
      · exact h.elim
    · exact h.elim
theorem dRun_of {ops : Array Oper} (hok : drawOk ops = true) : ∀ (l : List Nat) (s : AS), (∀ i ∈ l, i < ops.size) → dWalk P ops (l.filterMap (ops[·]?)) s K → dRun P ops l s K := by
  simp only [drawOk, Bool.and_eq_true] at hok
  obtain ⟨_, hall⟩ := hok
  intro l
  induction l with
  | nil => intro s _ h; exact h
  | cons i l ih =>
    intro s hi h
    have hlt := hi i (by simp)
    have ho : ops[i]? = some ops[i] := by simp [hlt]
    rw [List.filterMap_cons] at h
    simp only [ho] at h
    have hn : isNilTest ops[i] = false := by
      have := Array.all_eq_true_iff_forall_mem.1 hall ops[i] (Array.mem_of_getElem? ho)
      simp only [Bool.and_eq_true, Bool.not_eq_true'] at this
      exact this.1
    obtain ⟨out, h1, h2, h3⟩ := dG_gOut hn h
    simp only [dRun, ho]
    exact ⟨out, h1, h2, ih _ (fun j hj => hi j (by simp [hj])) h3⟩
variable {Q : Exit → AS → Prop}
theorem awp_draw {id : Nat} {ops : Array Oper} (hm : P.follows .mixedOrders = true) (hsl : slotsOk nt ops = true) (hok : drawOk ops = true) (h : dWalk P ops ops.toList s (Q .normal)) : AWp B nt w0 P (.region id ops true) Q s := by
  intro a w hs
  refine wp_region_any hm ?_
  have hs' : Sim B nt w0 s a { w with drawn := w.drawn + 1 } := by
    obtain ⟨gv, hs, hK⟩ := hs
    exact ⟨gv, hs.world (w' := { w with drawn := w.drawn + 1 }) ((Below.refl _ _).drew), hK.trans ⟨Nat.le_refl _, fun _ _ h => h, fun _ _ _ => rfl, fun _ => Nat.le_refl _, fun _ _ _ h => ⟨h, rfl⟩⟩⟩
  refine wpAny_of (K := Q .normal) hsl hok _ (fun s' a' w' h1 h2 => ⟨s', h1, h2⟩) ops.size (List.range ops.size) _ s a _ (by simp) List.pairwise_lt_range (fun i hi => by simpa using hi) (by simp) (fun i hi => ?_) (fun i hi hl d hd => ?_) hs' (dRun_of hok _ _ (fun i hi => by simpa using hi) (by rw [filterMap_range]; exact h))
  · simp [Array.getD_eq_getD_getElem?, hi]
  · simp [Array.getD_eq_getD_getElem?, hi] at hl
end
end Go.AV
end
