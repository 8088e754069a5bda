/- Regions in the order of the text, and code. -/
import Derived.Test.YtlgnflbekdldnaaAv12
set_option linter.unusedVariables false
set_option linter.unusedSimpArgs false
namespace Go.AV
open Go.RowKit

section
variable {B : Nat → Prop} {nt : Nat} {w0 : Base} {w : World} {s : AS} {a : Act} {gv : GV} {P : Program} {K : AS → Prop}

/-- The slot that tells whether an operation runs. -/
def guardSlot (ops : Array Oper) (j : Nat) : Option Tmp := (ops[j]?).bind (·.dst)

/-- An operation under its guard. -/
def aG (P : Program) (ops : Array Oper) (o : Oper) (s : AS) (K : AS → Prop) : Prop :=
  match o.guard with
  | none => aOp P o s K
  | some (j, want) => match guardSlot ops j with
    | some d => match s.t d with
      | .one (.c (.bool b)) => (b = want → aOp P o s K) ∧ (b = !want → K (s.put o.dst (.tup [])))
      | .tup [] => K (s.put o.dst (.tup []))
      | _ => False
    | none => False

def aRun (P : Program) (ops : Array Oper) : List Oper → AS → (AS → Prop) → Prop
  | [], s, K => K s
  | o :: r, s, K => aG P ops o s fun s' => aRun P ops r s' K

theorem undef_ok : RepAV B w s gv (.tup []) Go.undef := .tup rfl (fun m hm => by simp at hm)

theorem aG_ok {ops : Array Oper} {o : Oper} (hd : ∀ x, o.dst = some x → x < nt) (hg : ∀ j b, o.guard = some (j, b) → ∀ d, guardSlot ops j = some d → d < nt) (h : aG P ops o s K) (hs : Sim B nt w0 s a w) (Q : Exit → Act → World → Prop) :
    if Region.wanted o (yielded ops a.tmps) then o.wp P a w (fun a' w' => ∃ s', K s' ∧ Sim B nt w0 s' a' w') Q else ∃ s', K s' ∧ Sim B nt w0 s' (a.put o.dst Go.undef) w := by
  obtain ⟨gv, hs, hK⟩ := hs
  unfold aG at h
  cases hgd : o.guard with
  | none =>
    rw [hgd] at h
    have : Region.wanted o (yielded ops a.tmps) = true := by simp [Region.wanted, hgd]
    rw [if_pos this]
    exact aOp_ok hd h a w ⟨gv, hs, hK⟩ Q
  | some p =>
    obtain ⟨j, want⟩ := p
    rw [hgd] at h
    simp only at h
    split at h
    · rename_i d hgs
      have hdlt := hg j want hgd d hgs
      have hsz := hs.size
      have hval := hs.tmps d
      have hlt : d < a.tmps.size := by rw [hsz]; exact hdlt
      have hget : a.tmps[d]? = some (a.tmps.getD d Go.undef) := by
        rw [Array.getElem?_eq_getElem hlt]
        simp only [Array.getD, hlt, dif_pos]
        rfl
      have hy : yielded ops a.tmps j = match a.tmps.getD d Go.undef with | .bool b => some b | _ => none := by
        unfold yielded
        unfold guardSlot at hgs
        rw [hgs]
        simp only [Option.bind_some, hget]
        cases a.tmps.getD d Go.undef <;> rfl
      split at h
      · rename_i b hb
        rw [hb] at hval
        have hv := hval.bool_inv
        rw [hv] at hy
        by_cases hbw : b = want
        · have : Region.wanted o (yielded ops a.tmps) = true := by simp [Region.wanted, hgd, hy, hbw]
          rw [if_pos this]
          exact aOp_ok hd (h.1 hbw) a w ⟨gv, hs, hK⟩ Q
        · have : ¬ Region.wanted o (yielded ops a.tmps) = true := by simp [Region.wanted, hgd, hy, hbw]
          rw [if_neg this]
          exact ⟨_, h.2 (by cases b <;> cases want <;> simp_all), gv, hs.put o.dst hd _ _ undef_ok, hK.putd _ _⟩
      · rename_i hb
        rw [hb] at hval
        have hv : a.tmps.getD d Go.undef = Go.undef := by
          generalize a.tmps.getD d Go.undef = v at hval
          cases hval with
          | @tup _ vs hn _ =>
            have : vs = #[] := by simpa using hn
            rw [this]; rfl
        rw [hv] at hy
        have hy' : yielded ops a.tmps j = none := by rw [hy]; rfl
        have : ¬ Region.wanted o (yielded ops a.tmps) = true := by simp [Region.wanted, hgd, hy']
        rw [if_neg this]
        exact ⟨_, h, gv, hs.put o.dst hd _ _ undef_ok, hK.putd _ _⟩
      · exact h.elim
    · exact h.elim

/-- All slots that a region writes or asks are there. -/
def slotsOk (nt : Nat) (ops : Array Oper) : Bool := ops.all fun o => (match o.dst with | some d => decide (d < nt) | none => true)

theorem slotsOk_get {ops : Array Oper} (h : slotsOk nt ops = true) {j : Nat} {o : Oper} (ho : ops[j]? = some o) : ∀ x, o.dst = some x → x < nt := by
  intro x hx
  have := Array.all_eq_true_iff_forall_mem.1 h o (Array.mem_of_getElem? ho)
  rw [hx] at this
  simpa using this

theorem slotsOk_guard {ops : Array Oper} (h : slotsOk nt ops = true) {j d : Nat} (hd : guardSlot ops j = some d) : d < nt := by
  unfold guardSlot at hd
  cases ho : ops[j]? with
  | none => simp [ho] at hd
  | some o => rw [ho] at hd; exact slotsOk_get h ho d hd

theorem aRun_ok {ops : Array Oper} (hsl : slotsOk nt ops = true) (Q : Exit → Act → World → Prop) : ∀ (l : List Nat) (s : AS) (a : Act) (w : World) (K : AS → Prop), (∀ j ∈ l, (ops[j]?).isSome = true) → aRun P ops (l.filterMap (ops[·]?)) s K → Sim B nt w0 s a w →
    (∀ s' a' w', K s' → Sim B nt w0 s' a' w' → Q .normal a' w') → wpOps P ops Q l a w := by
  intro l
  induction l with
  | nil => intro s a w K _ h hs hK; exact hK _ _ _ h hs
  | cons j l ih =>
    intro s a w K hj h hs hK
    have hj0 := hj j (by simp)
    cases ho : ops[j]? with
    | none => simp [ho] at hj0
    | some o =>
      rw [List.filterMap_cons] at h
      simp only [ho] at h
      simp only [wpOps, ho]
      have hg := aG_ok (B := B) (w0 := w0) (slotsOk_get hsl ho) (fun j' b _ d hd => slotsOk_guard hsl hd) h hs Q
      split
      · rename_i hw
        rw [if_pos hw] at hg
        left
        exact Oper.wp_mono (fun a' w' ⟨s', h1, h2⟩ => ih s' a' w' K (fun j hj' => hj j (by simp [hj'])) h1 h2 hK) hg
      · rename_i hw
        rw [if_neg hw] at hg
        obtain ⟨s', h1, h2⟩ := hg
        exact ih s' _ w K (fun j hj' => hj j (by simp [hj'])) h1 h2 hK

theorem filterMap_some {α β : Type} (f : α → Option β) (g : α → β) : ∀ (l : List α), (∀ x ∈ l, f x = some (g x)) → l.filterMap f = l.map g
  | [], _ => rfl
  | x :: l, h => by
    rw [List.filterMap_cons, h x (by simp)]
    simp only [List.map_cons]
    rw [filterMap_some f g l (fun y hy => h y (by simp [hy]))]

theorem filterMap_range (ops : Array Oper) : (List.range ops.size).filterMap (ops[·]?) = ops.toList := by
  rw [filterMap_some _ (fun j => (ops[j]?).getD default) _ (fun j hj => by
    have : j < ops.size := by simpa using hj
    simp [this])]
  apply List.ext_getElem?
  intro i
  rw [List.getElem?_map]
  rcases Nat.lt_or_ge i ops.size with h | h
  · rw [List.getElem?_range h]
    simp [h]
  · rw [List.getElem?_eq_none (by simpa using h)]
    simp [h]

theorem least_ex {p : Nat → Prop} (h : ∃ n, p n) : ∃ n, p n ∧ ∀ m, p m → n ≤ m := by
  obtain ⟨n, hn⟩ := h
  induction n using Nat.strongRecOn with
  | _ n ih =>
    by_cases hex : ∃ m, m < n ∧ p m
    · obtain ⟨m, hm, hpm⟩ := hex
      exact ih m hm hpm
    · exact ⟨n, hn, fun m hm => by
        rcases Nat.lt_or_ge m n with h | h
        · exact absurd ⟨m, h, hm⟩ hex
        · exact h⟩

/-! ### Code -/
/-- The weakest precondition of code over abstract states. -/
def AWp (B : Nat → Prop) (nt : Nat) (w0 : Base) (P : Program) (c : Code) (Q : Exit → AS → Prop) (s : AS) : Prop :=
  ∀ a w, Sim B nt w0 s a w → c.wp P (fun e a' w' => ∃ s', Q e s' ∧ Sim B nt w0 s' a' w') a w

variable {Q : Exit → AS → Prop}

theorem awp_mono {c : Code} {Q' : Exit → AS → Prop} (h : AWp B nt w0 P c Q s) (hq : ∀ e s, Q e s → Q' e s) : AWp B nt w0 P c Q' s :=
  fun a w hs => wp_mono (h a w hs) fun e a' w' ⟨s', h1, h2⟩ => ⟨s', hq e s' h1, h2⟩

theorem awp_skip (h : Q .normal s) : AWp B nt w0 P .skip Q s := fun a w hs => wp_skip ⟨s, h, hs⟩
theorem awp_exit {id : Nat} (h : Q (.exit id) s) : AWp B nt w0 P (.exit id) Q s := fun a w hs => wp_exit ⟨s, h, hs⟩
theorem awp_ret (h : Q .ret s) : AWp B nt w0 P .ret Q s := fun a w hs => wp_ret ⟨s, h, hs⟩

/-- What holds behind the first of two pieces. -/
def thenA (next : AS → Prop) (Q : Exit → AS → Prop) : Exit → AS → Prop
  | .normal, s => next s
  | e, s => Q e s

theorem awp_seq {x y : Code} (h : AWp B nt w0 P x (thenA (AWp B nt w0 P y Q) Q) s) : AWp B nt w0 P (.seq x y) Q s := by
  intro a w hs
  refine wp_seq (wp_mono (h a w hs) ?_)
  rintro e a' w' ⟨s', h1, h2⟩
  cases e with
  | normal => exact h1 a' w' h2
  | _ => exact ⟨s', h1, h2⟩

/-- Behind a piece 'M' holds. -/
theorem awp_cut {x y : Code} (M : AS → Prop) (h : AWp B nt w0 P x (thenA M Q) s) (h2 : ∀ s, M s → AWp B nt w0 P y Q s) : AWp B nt w0 P (.seq x y) Q s :=
  awp_seq (awp_mono h fun e s' hq => by cases e <;> first | exact h2 s' hq | exact hq)

theorem awp_cond {c : Operand} {x y : Code} (b : Bool) (hc : s.ev c = .one (.c (.bool b))) (ht : b = true → AWp B nt w0 P x Q s) (hf : b = false → AWp B nt w0 P y Q s) : AWp B nt w0 P (.cond c x y) Q s := by
  intro a w hs
  obtain ⟨gv, hsg, hK⟩ := hs
  have hv := hsg.ev c
  rw [hc] at hv
  exact wp_cond_split hv.bool_inv (fun h => ht h a w ⟨gv, hsg, hK⟩) (fun h => hf h a w ⟨gv, hsg, hK⟩)

def inBlockA (id : Nat) (Q : Exit → AS → Prop) : Exit → AS → Prop
  | .exit id', s => if id' = id then Q .normal s else Q (.exit id') s
  | e, s => Q e s

theorem awp_block {id : Nat} {c : Code} (h : AWp B nt w0 P c (inBlockA id Q) s) : AWp B nt w0 P (.block id c) Q s := by
  intro a w hs
  refine wp_block (wp_mono (h a w hs) ?_)
  rintro e a' w' ⟨s', h1, h2⟩
  cases e with
  | exit id' =>
    simp only [inBlockA, Exit.inBlock] at h1 ⊢
    split
    · rename_i e; rw [if_pos e] at h1; exact ⟨s', h1, h2⟩
    · rename_i e; rw [if_neg e] at h1; exact ⟨s', h1, h2⟩
  | _ => exact ⟨s', h1, h2⟩

theorem awp_region {id : Nat} {ops : Array Oper} (hsl : slotsOk nt ops = true) (h : aRun P ops ops.toList s (Q .normal)) : AWp B nt w0 P (.region id ops false) Q s := by
  intro a w hs
  refine wp_region (aRun_ok hsl _ _ s a w (Q .normal) (fun j hj => by have : j < ops.size := by simpa using hj
                                                                      simp [this]) (by rw [filterMap_range]; exact h) hs (fun s' a' w' h1 h2 => ⟨s', h1, h2⟩))

open Classical in
/-- A loop: 'I n s' at each round's head, n going down. -/
theorem awp_loop {c : Code} (I : Nat → AS → Prop) (n : Nat) (h0 : I n s) (round : ∀ n s, I n s → AWp B nt w0 P c (thenA (fun s' => ∃ m, m < n ∧ I m s') Q) s) : AWp B nt w0 P (.loop c) Q s := by
  intro a w hs
  let J : Act → World → Nat → Prop := fun a w n => ∃ s, I n s ∧ Sim B nt w0 s a w
  refine wp_loop (fun a w => ∃ n, J a w n) (fun a w => if h : ∃ n, J a w n then Classical.choose (least_ex h) else 0) ⟨n, s, h0, hs⟩ ?_
  intro a w hI
  obtain ⟨⟨s', h1, h2⟩, hmin⟩ := Classical.choose_spec (least_ex hI)
  refine wp_mono (round _ s' h1 a w h2) ?_
  rintro e a' w' ⟨s2, h3, h4⟩
  cases e with
  | normal =>
    obtain ⟨m, hm, hIm⟩ := h3
    have hex : ∃ n, J a' w' n := ⟨m, s2, hIm, h4⟩
    refine ⟨hex, ?_⟩
    simp only [dif_pos hex, dif_pos hI]
    exact Nat.lt_of_le_of_lt ((Classical.choose_spec (least_ex hex)).2 m ⟨s2, hIm, h4⟩) hm
  | _ => exact ⟨s2, h3, h4⟩

theorem act_put_same (a : Act) (d : Tmp) (hd : d < a.tmps.size) : a.put (some d) (a.tmps.getD d Go.undef) = a := by
  have h1 : (a.put (some d) (a.tmps.getD d Go.undef)).tmps = a.tmps := by
    rw [Act.put_tmps]
    apply Array.ext
    · simp
    · intro i h1 h2
      rw [Array.getElem_setIfInBounds (by simpa using h2)]
      split
      · rename_i e; subst e; simp [Array.getD, hd]
      · rfl
  have h2 := Act.put_defers a (some d) (a.tmps.getD d Go.undef)
  generalize a.put (some d) (a.tmps.getD d Go.undef) = b at h1 h2
  cases a
  cases b
  simp only at h1 h2
  rw [h1, h2]

/-- A nil slice is taken up as one of the frame's own. -/
theorem awp_adopt {c : Code} (d : Tmp) (hd : d < nt) (h0 : s.t d = .one .nil) (i E sz : Nat) (h : AWp B nt w0 P c Q ((s.new i (.arr E sz [])).put (some d) (.one (.own i (s.N i))))) : AWp B nt w0 P c Q s := by
  intro a w ⟨gv, hs, hK⟩
  have hv := hs.tmps d
  rw [h0] at hv
  have hval : a.tmps.getD d Go.undef = .slice none 0 0 := by
    generalize a.tmps.getD d Go.undef = v at hv
    cases hv with | one hv => cases hv; rfl
  obtain ⟨gv', hs', hk', hg⟩ := hs.new (Below.refl _ _) i (.arr E sz []) (.slice none 0 0) (by intro b hb; simp [blkOf] at hb)
    (fun s' gv' _ _ => ⟨[], by simp, World.ownsRow_nil _ _ _ _, by simp [blkOf], rfl, fun m hm => by simp at hm⟩)
  have hput := hs'.put (some d) (fun x hx => by cases hx; exact hd) (.one (.own i (s.N i))) (a.tmps.getD d Go.undef) (.one (.own (by simp [AS.new]) (fun _ => by rw [hg]; exact hval)))
  rw [act_put_same a d (by rw [hs.size]; exact hd)] at hput
  exact h a w ⟨gv', hput, (hK.trans hk').putd _ _⟩

/-- Whatever frame is in the one state is in the other, too. -/
def Ref (nt : Nat) (s s' : AS) : Prop := ∀ (B : Nat → Prop) (w0 : Base) (a : Act) (w : World), Sim B nt w0 s a w → Sim B nt w0 s' a w
theorem ref_refl : Ref nt s s := fun _ _ _ _ h => h
theorem ref_trans {s1 s2 s3 : AS} (h : Ref nt s1 s2) (h2 : Ref nt s2 s3) : Ref nt s1 s3 := fun B w0 a w hs => h2 B w0 a w (h B w0 a w hs)
theorem awp_ref {c : Code} {s' : AS} (h : Ref nt s s') (h2 : AWp B nt w0 P c Q s') : AWp B nt w0 P c Q s := fun a w hs => h2 a w (h B w0 a w hs)

/-- A nil slice is taken up as one of the frame's own. -/
theorem ref_adopt (d : Tmp) (i E sz : Nat) (hd : d < nt) (h0 : s.t d = .one .nil) : Ref nt s ((s.new i (.arr E sz [])).put (some d) (.one (.own i (s.N i)))) := by
  rintro B w0 a w ⟨gv, hs, hK⟩
  have hv := hs.tmps d
  rw [h0] at hv
  have hval : a.tmps.getD d Go.undef = .slice none 0 0 := by
    generalize a.tmps.getD d Go.undef = v at hv
    cases hv with | one hv => cases hv; rfl
  obtain ⟨gv', hs', hk', hg⟩ := hs.new (Below.refl _ _) i (.arr E sz []) (.slice none 0 0) (by intro b hb; simp [blkOf] at hb)
    (fun s' gv' _ _ => ⟨[], by simp, World.ownsRow_nil _ _ _ _, by simp [blkOf], rfl, fun m hm => by simp at hm⟩)
  have hput := hs'.put (some d) (fun x hx => by cases hx; exact hd) (.one (.own i (s.N i))) (a.tmps.getD d Go.undef) (.one (.own (by simp [AS.new]) (fun _ => by rw [hg]; exact hval)))
  rw [act_put_same a d (by rw [hs.size]; exact hd)] at hput
  exact ⟨gv', hput, (hK.trans hk').putd _ _⟩

/-- A slice of the frame's own goes by another name. -/
theorem ref_move (d : Tmp) (i h v E sz : Nat) (xs : List (List C)) (hd : d < nt) (h0 : s.t d = .one (.own h v)) (hH : s.H h v = some (.arr E sz xs)) :
    Ref nt s (((s.kills [(h, v)]).new i (.arr E sz xs)).put (some d) (.one (.own i (s.N i)))) := by
  rintro B w0 a w ⟨gv, hs, hK⟩
  have hv := hs.tmps d
  rw [h0] at hv
  have hval : a.tmps.getD d Go.undef = gv h v := by
    generalize a.tmps.getD d Go.undef = x at hv
    cases hv with | one hv => cases hv with | own _ hx => exact hx (by rw [hH]; simp)
  have hlive := hs.live h v _ hH
  obtain ⟨gv', hs', hk', hg⟩ := hs.renew [(h, v)] (by simp [hH, Ow, Blk.ow]) i (.arr E sz xs) (gv h v) rfl rfl rfl (Nat.le_refl _) (fun _ _ _ => rfl) (fun b hb => .inr ⟨(h, v), by simp, hb⟩)
    (fun s' gv' hkeep _ => hkeep.b hlive (fun _ _ _ => rfl))
  have hput := hs'.put (some d) (fun x hx => by cases hx; exact hd) (.one (.own i (s.N i))) (a.tmps.getD d Go.undef) (.one (.own (by simp [AS.new, kills_N]) (fun _ => by rw [hg]; exact hval)))
  rw [act_put_same a d (by rw [hs.size]; exact hd)] at hput
  exact ⟨gv', hput, (hK.trans hk').putd _ _⟩

/-- A loop; at its head and at each round's end the state may be told in other words. -/
theorem awp_loop_r {c : Code} (I : Nat → AS → Prop) (n : Nat) (h0 : ∃ s0, Ref nt s s0 ∧ I n s0) (round : ∀ n s, I n s → AWp B nt w0 P c (thenA (fun s' => ∃ s'' m, Ref nt s' s'' ∧ m < n ∧ I m s'') Q) s) : AWp B nt w0 P (.loop c) Q s := by
  obtain ⟨s0, hr, hi⟩ := h0
  refine awp_loop (fun n s => ∃ s0, Ref nt s s0 ∧ I n s0) n ⟨s0, hr, hi⟩ ?_
  rintro n s ⟨s1, hr1, hi1⟩
  refine awp_ref hr1 (awp_mono (round n s1 hi1) ?_)
  intro e s' h
  cases e with
  | normal =>
    obtain ⟨s'', m, h1, h2, h3⟩ := h
    exact ⟨m, h2, s'', h1, h3⟩
  | _ => exact h

end
end Go.AV
