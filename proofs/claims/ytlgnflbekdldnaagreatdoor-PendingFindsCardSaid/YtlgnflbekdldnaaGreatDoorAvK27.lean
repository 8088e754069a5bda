/- Texts AvDR. -/
import Derived.Test.YtlgnflbekdldnaaGreatDoorAvK26
set_option linter.unusedVariables false
set_option linter.unusedSimpArgs false
set_option linter.unusedSectionVars false
noncomputable section
namespace Go.AV
open Go.RowKit
abbrev Tab := List (Nat × Nat × Nat)
def lkTab : Tab → Nat → Option (Nat × Nat)
  | [], _ => none
  | (t, r) :: l, i => bif Nat.beq i t then some r else lkTab l i
def ptrOf (o : Oper) : Option Operand :=
  match o.op with
  | .load _ p => some p
  | .store _ p _ => some p
  | _ => none
def rootOf (tab : Tab) (o : Oper) : Option (Nat × Nat) :=
  match ptrOf o with
  | some (.tmp t) => lkTab tab t
  | _ => none
def ptrAt (tab : Tab) (o : Oper) (s : AS) : Prop := ∀ r p, rootOf tab o = some r → ptrOf o = some p → ∃ off, s.ev p = .one (.ptr r.1 r.2 off)
def isLoad (o : Oper) : Bool :=
  match o.op with
  | .load _ _ => true
  | _ => false
def apart (tab : Tab) (ops : Array Oper) (x y : Oper) : Bool :=
  (match x.dst with | some d => !(looks ops y).contains d && y.dst != some d | none => true) &&
  (match y.dst with | some d => !(looks ops x).contains d && x.dst != some d | none => true) &&
  ((isLoad x && isStore y && x.dst.isSome) || (isStore x && isLoad y && y.dst.isSome)) && x.guard.isNone && y.guard.isNone &&
  (match rootOf tab x, rootOf tab y with
  | some a, some b => !(Nat.beq a.1 b.1 && Nat.beq a.2 b.2)
  | _, _ => false)
def indepR (tab : Tab) (ops : Array Oper) (x y : Oper) : Bool := indep ops x y || apart tab ops x y
section
variable {B : Nat → Prop} {nt : Nat} {w0 : Base} {w : World} {s s' : AS} {a : Act} {gv : GV} {P : Program} {o : Oper} {K : AS → Prop} [InvC P B w0]
theorem mem_ptr {o : Oper} {p : Operand} (h : ptrOf o = some p) : p ∈ o.op.operands.toList := by
  unfold ptrOf at h
  split at h
  · rename_i t q e; cases h; rw [e]; simp [Op.operands]
  · rename_i t q x e; cases h; rw [e]; simp [Op.operands]
  · cases h
theorem load_out {o : Oper} (hl : isLoad o = true) (hg : o.guard = none) {ops : Array Oper} {out : Out} (h : gOut P ops o s out) : ∃ v, out = .val v := by
  unfold isLoad at hl
  split at hl
  · rename_i t p e
    unfold gOut at h
    rw [hg] at h
    simp only at h
    unfold aOut at h
    simp only [e] at h
    split at h
    · exact ⟨_, h.2.2.symm⟩
    · split at h
      · exact ⟨_, h.2.2.symm⟩
      · exact h.elim
    · split at h
      · exact ⟨_, h.2.2.symm⟩
      · exact h.elim
    · exact h.elim
  · cases hl
theorem load_same {o : Oper} (hl : isLoad o = true) (hg : o.guard = none) {ops : Array Oper} {p : Operand} (hp : ptrOf o = some p) {h v off : Nat} (h1 : s.ev p = .one (.ptr h v off)) (h2 : s'.ev p = .one (.ptr h v off)) (hH : s'.H h v = s.H h v) {out : Out} :
    gOut P ops o s' out ↔ gOut P ops o s out := by
  unfold isLoad at hl
  split at hl
  · rename_i t q e
    have : q = p := by unfold ptrOf at hp; rw [e] at hp; simpa using hp
    subst this
    unfold gOut
    rw [hg]
    simp only
    unfold aOut
    simp only [e, h1, h2]
    cases tiOf P t with
    | none => exact Iff.rfl
    | some ti => simp only [hH]
  · cases hl
theorem swap_apart {tab : Tab} {ops : Array Oper} {x y : Oper} (hr : Real B nt w0 s) (hi : apart tab ops x y = true) (hst : ∀ o : Oper, (o = x ∨ o = y) → isStore o = true → o.dst = none) {ox oy : Out} (h1 : gOut P ops x s ox) (q1 : dynOk x ox) (h2 : gOut P ops y (ox.apply s x.dst) oy) (q2 : dynOk y oy)
    (p1 : ptrAt tab x s) (p2 : ptrAt tab y (ox.apply s x.dst)) :
    gOut P ops y s oy ∧ gOut P ops x (oy.apply s y.dst) ox ∧ ox.apply (oy.apply s y.dst) x.dst = oy.apply (ox.apply s x.dst) y.dst ∧ ptrAt tab y s ∧ ptrAt tab x (oy.apply s y.dst) := by
  obtain ⟨a, w, gv, hs, _⟩ := hr
  unfold apart at hi
  simp only [Bool.and_eq_true, Option.isNone_iff_eq_none] at hi
  obtain ⟨⟨⟨⟨⟨hix, hiy⟩, hi⟩, gx⟩, gy⟩, hroot⟩ := hi
  have lx : ∀ t ∈ looks ops y, x.dst ≠ some t := by
    intro t ht e
    rw [e] at hix
    simp only [Bool.and_eq_true, Bool.not_eq_true', List.contains_eq_mem, decide_eq_false_iff_not] at hix
    exact hix.1 ht
  have ly : ∀ t ∈ looks ops x, y.dst ≠ some t := by
    intro t ht e
    rw [e] at hiy
    simp only [Bool.and_eq_true, Bool.not_eq_true', List.contains_eq_mem, decide_eq_false_iff_not] at hiy
    exact hiy.1 ht
  have hne : ∀ d e, x.dst = some d → y.dst = some e → d ≠ e := by
    intro d e hd he hde
    rw [hd] at hix
    simp only [Bool.and_eq_true, bne_iff_ne, ne_eq] at hix
    exact hix.2 (by rw [he, hde])
  have evx : ∀ (out : Out), SameFrz s (out.apply s x.dst) → ∀ z ∈ y.op.operands.toList, (out.apply s x.dst).ev z = s.ev z := fun out hf z hz => ev_same hs hf (fun t e => apply_t out s x.dst t (lx t (mem_looks (e ▸ hz))))
  have evy : ∀ (out : Out), SameFrz s (out.apply s y.dst) → ∀ z ∈ x.op.operands.toList, (out.apply s y.dst).ev z = s.ev z := fun out hf z hz => ev_same hs hf (fun t e => apply_t out s y.dst t (ly t (mem_looks (e ▸ hz))))
  have fzx := out_frz h1 q1
  have fzv : ∀ (d : Option Tmp) (v : AV), SameFrz s ((Out.val v).apply s d) := fun d v => frz_put
  have py : ptrAt tab y s := fun r p hr' hp => by
    obtain ⟨off, h⟩ := p2 r p hr' hp
    exact ⟨off, by rw [← evx ox fzx p (mem_ptr hp)]; exact h⟩
  cases rx : rootOf tab x with
  | none => rw [rx] at hroot; cases hroot
  | some r1 =>
  cases ry : rootOf tab y with
  | none => rw [rx, ry] at hroot; cases hroot
  | some r2 =>
  rw [rx, ry] at hroot
  have hrne : ¬ (r1.1 = r2.1 ∧ r1.2 = r2.2) := by
    rintro ⟨e1, e2⟩
    simp [e1, e2] at hroot
  obtain ⟨px, hpx⟩ : ∃ p, ptrOf x = some p := by
    unfold rootOf at rx
    cases h : ptrOf x with
    | none => rw [h] at rx; cases rx
    | some p => exact ⟨p, rfl⟩
  obtain ⟨py', hpy⟩ : ∃ p, ptrOf y = some p := by
    unfold rootOf at ry
    cases h : ptrOf y with
    | none => rw [h] at ry; cases ry
    | some p => exact ⟨p, rfl⟩
  obtain ⟨off1, k1⟩ := p1 r1 px rx hpx
  obtain ⟨off2, k2⟩ := py r2 py' ry hpy
  -- what a store through a pointer leaves
  have store_at : ∀ (o : Oper) (q : Operand) (s0 : AS) (out : Out) (h v off : Nat), isStore o = true → o.guard = none → ptrOf o = some q → s0.ev q = .one (.ptr h v off) → gOut P ops o s0 out → dynOk o out → ∃ b, out = .store [] h v b := by
    intro o q s0 out h v off hso hgo hq hev hgo' hd
    unfold gOut at hgo'
    rw [hgo] at hgo'
    simp only at hgo'
    unfold aOut at hgo'
    unfold isStore at hso
    split at hso
    · rename_i t p x e
      have : p = q := by unfold ptrOf at hq; rw [e] at hq; simpa using hq
      subst this
      simp only [e, hev] at hgo'
      obtain ⟨_, hgo'⟩ := hgo'
      split at hgo'
      · rename_i e1 e2 e3
        rename_i hh
        first
          | (cases e2; split at hgo'
             · exact ⟨_, hgo'.2.symm⟩
             · exact hgo'.elim)
          | cases e2
      · rename_i e1 e2 e3
        cases e2
      · exact hgo'.elim
    · rename_i e
      cases hso
  have hset : ∀ (h v h' v' : Nat) (b : Blk) (d : Option Tmp), d = none → ¬ (h = h' ∧ v = v') → ((Out.store [] h' v' b).apply s d).H h v = s.H h v := by
    intro h v h' v' b d hd hn
    subst hd
    simp only [Out.apply, AS.frzs, List.foldl_nil, AS.set]
    rw [if_neg hn]
  have px' : ∀ (out : Out), SameFrz s (out.apply s y.dst) → ptrAt tab x (out.apply s y.dst) := fun out hf r p hr' hp => by
    obtain ⟨off, h⟩ := p1 r p hr' hp
    exact ⟨off, by rw [evy out hf p (mem_ptr hp)]; exact h⟩
  simp only [Bool.or_eq_true, Bool.and_eq_true] at hi
  rcases hi with ⟨⟨lx', sy⟩, dx⟩ | ⟨⟨sx, ly'⟩, dy⟩
  · obtain ⟨d, hd⟩ := Option.isSome_iff_exists.1 dx
    obtain ⟨v, rfl⟩ := load_out lx' gx h1
    have e1 := (gOut_of (P := P) (o := y) (s := s) (ops := ops) x.dst lx (out0 := .val v) (out := oy) (aOut_congr hs (fun h u _ => by simp only [Out.apply, put_H]) (evx _ (fzv _ _)) (fun k hk => by simp only [Out.apply, put_N]) oy q2.2.2)).1 h2
    obtain ⟨b, rfl⟩ := store_at y py' s oy _ _ _ sy gy hpy k2 e1 q2
    have hH := hset r1.1 r1.2 r2.1 r2.2 b y.dst (hst y (.inr rfl) sy) hrne
    refine ⟨e1, (load_same lx' gx hpx k1 (by rw [evy _ (out_frz e1 q2) px (mem_ptr hpx)]; exact k1) hH).2 h1, ?_, py, px' _ (out_frz e1 q2)⟩
    simp only [Out.apply] at *
    rw [hd]
    exact (put_apply s d v (.store [] r2.1 r2.2 b) y.dst (fun h => hne d d hd h rfl)).symm
  · obtain ⟨e, he⟩ := Option.isSome_iff_exists.1 dy
    obtain ⟨b, rfl⟩ := store_at x px s ox _ _ _ sx gx hpx k1 h1 q1
    have hH := hset r2.1 r2.2 r1.1 r1.2 b x.dst (hst x (.inl rfl) sx) (fun h => hrne ⟨h.1.symm, h.2.symm⟩)
    have e1 := (load_same ly' gy hpy k2 (by rw [evx _ fzx py' (mem_ptr hpy)]; exact k2) hH).1 h2
    obtain ⟨v, rfl⟩ := load_out ly' gy e1
    refine ⟨e1, (gOut_of (P := P) (o := x) (s := s) (ops := ops) y.dst ly (out0 := .val v) (out := .store [] r1.1 r1.2 b) (aOut_congr hs (fun h u _ => by simp only [Out.apply, put_H]) (evy _ (fzv _ _)) (fun k hk => by simp only [Out.apply, put_N]) _ q1.2.2)).2 h1, ?_, py, px' _ (fzv _ _)⟩
    simp only [Out.apply] at *
    rw [he]
    exact put_apply s e v (.store [] r1.1 r1.2 b) x.dst (fun h => hne e e h he rfl)
theorem swapR {tab : Tab} {ops : Array Oper} {x y : Oper} (hr : Real B nt w0 s) (hi : indepR tab ops x y = true) (hst : ∀ o : Oper, (o = x ∨ o = y) → isStore o = true → o.dst = none) {ox oy : Out} (h1 : gOut P ops x s ox) (q1 : dynOk x ox) (h2 : gOut P ops y (ox.apply s x.dst) oy) (q2 : dynOk y oy)
    (p1 : ptrAt tab x s) (p2 : ptrAt tab y (ox.apply s x.dst)) :
    gOut P ops y s oy ∧ gOut P ops x (oy.apply s y.dst) ox ∧ ox.apply (oy.apply s y.dst) x.dst = oy.apply (ox.apply s x.dst) y.dst ∧ ptrAt tab y s ∧ ptrAt tab x (oy.apply s y.dst) := by
  unfold indepR at hi
  rw [Bool.or_eq_true] at hi
  rcases hi with hi | hi
  · obtain ⟨e1, e2, e3⟩ := swap hr hi hst h1 q1 h2 q2
    obtain ⟨a, w, gv, hs, _⟩ := hr
    unfold indep at hi
    simp only [Bool.and_eq_true] at hi
    obtain ⟨⟨hix, hiy⟩, _⟩ := hi
    have lx : ∀ t ∈ looks ops y, x.dst ≠ some t := by
      intro t ht e
      rw [e] at hix
      simp only [Bool.and_eq_true, Bool.not_eq_true', List.contains_eq_mem, decide_eq_false_iff_not] at hix
      exact hix.1 ht
    have ly : ∀ t ∈ looks ops x, y.dst ≠ some t := by
      intro t ht e
      rw [e] at hiy
      simp only [Bool.and_eq_true, Bool.not_eq_true', List.contains_eq_mem, decide_eq_false_iff_not] at hiy
      exact hiy.1 ht
    refine ⟨e1, e2, e3, fun r p hr' hp => ?_, fun r p hr' hp => ?_⟩
    · obtain ⟨off, h⟩ := p2 r p hr' hp
      exact ⟨off, by rw [← ev_same hs (out_frz h1 q1) (fun t e => apply_t ox s x.dst t (lx t (mem_looks (e ▸ mem_ptr hp))))]; exact h⟩
    · obtain ⟨off, h⟩ := p1 r p hr' hp
      exact ⟨off, by rw [ev_same hs (out_frz e1 q2) (fun t e => apply_t oy s y.dst t (ly t (mem_looks (e ▸ mem_ptr hp))))]; exact h⟩
  · exact swap_apart hr hi hst h1 q1 h2 q2 p1 p2
def dRunR (P : Program) (tab : Tab) (ops : Array Oper) : List Nat → AS → (AS → Prop) → Prop
  | [], s, K => K s
  | i :: r, s, K => match ops[i]? with
    | some o => ptrAt tab o s ∧ ∃ out, gOut P ops o s out ∧ dynOk o out ∧ dRunR P tab ops r (out.apply s o.dst) K
    | none => False
theorem frontR {tab : Tab} {ops : Array Oper} (hsl : slotsOk nt ops = true) (hst : ∀ (j : Nat) (o : Oper), ops[j]? = some o → isStore o = true → o.dst = none) (i : Nat) (oi : Oper) (hoi : ops[i]? = some oi) (l2 : List Nat) :
    ∀ (l1 : List Nat) (s : AS), Real B nt w0 s → (∀ j ∈ l1, ∀ oj, ops[j]? = some oj → indepR tab ops oj oi = true) → dRunR P tab ops (l1 ++ i :: l2) s K → dRunR P tab ops (i :: (l1 ++ l2)) s K := by
  intro l1
  induction l1 with
  | nil => intro s _ _ h; exact h
  | cons j l1 ih =>
    intro s hr hind h
    simp only [List.cons_append, dRunR] at h
    cases hoj : ops[j]? with
    | none => rw [hoj] at h; exact h.elim
    | some oj =>
      rw [hoj] at h
      obtain ⟨p1, ox, g1, d1, h⟩ := h
      have hr1 := hr.step (slotsOk_get hsl hoj) (fun j' b _ d hd => slotsOk_guard hsl hd) g1
      have h' := ih _ hr1 (fun j' hj' => hind j' (by simp [hj'])) h
      simp only [dRunR, hoi] at h'
      obtain ⟨p2, oy, g2, d2, h'⟩ := h'
      obtain ⟨e1, e2, e3, e4, e5⟩ := swapR hr (hind j (by simp) oj hoj) (fun o ho hs => by
        rcases ho with rfl | rfl
        · exact hst j _ hoj hs
        · exact hst i _ hoi hs) g1 d1 g2 d2 p1 p2
      simp only [dRunR, hoi, List.cons_append, hoj]
      exact ⟨e4, oy, e1, d2, e5, ox, e2, d1, by rw [e3]; exact h'⟩
def pairsOkR (tab : Tab) (ops : Array Oper) (cert : List Nat) : Bool :=
  (List.range ops.size).all fun i => (List.range i).all fun j => (cert.getD i 0).testBit j ||
    (match ops[j]?, ops[i]? with | some x, some y => indepR tab ops x y | _, _ => false)
def drawOkR (tab : Tab) (ops : Array Oper) : Bool :=
  let cert := ancs ops
  ancOk ops cert && pairsOkR tab ops cert && ops.all fun o => !isNilTest o && (!isStore o || o.dst.isNone)
theorem wpAny_ofR {tab : Tab} {ops : Array Oper} (hsl : slotsOk nt ops = true) (hok : drawOkR tab ops = true) (Q : Exit → Act → World → Prop) (hQ : ∀ s' a' w', K s' → Sim B nt w0 s' a' w' → Q .normal a' w') :
    ∀ (fuel : Nat) (l : List Nat) (listed : Array Bool) (s : AS) (a : Act) (w : World), l.length = fuel → l.Pairwise (· < ·) → (∀ i ∈ l, i < ops.size) → listed.size = ops.size → (∀ i, i < ops.size → (listed.getD i false = true ↔ i ∉ l)) →
      (∀ i, i < ops.size → listed.getD i false = true → ∀ d ∈ direct ops i, listed.getD d false = true) → Sim B nt w0 s a w → dRunR P tab ops l s K → wpAny P .any ops Q fuel listed a w := by
  simp only [drawOkR, Bool.and_eq_true] at hok
  obtain ⟨⟨hanc, hpairs⟩, hall⟩ := hok
  have hst : ∀ (j : Nat) (o : Oper), ops[j]? = some o → isStore o = true → o.dst = none := by
    intro j o ho hs
    have := Array.all_eq_true_iff_forall_mem.1 hall o (Array.mem_of_getElem? ho)
    simp only [Bool.and_eq_true, hs, Bool.not_true, Bool.false_or] at this
    simpa using this.2
  have hdirect : ∀ i, i < ops.size → ∀ d ∈ direct ops i, d < i := by
    intro i hi d hd
    have h1 := List.all_eq_true.1 hanc i (by simpa using hi)
    simp only [Bool.and_eq_true] at h1
    simpa using List.all_eq_true.1 h1.1 d hd
  intro fuel
  induction fuel with
  | zero =>
    intro l listed s a w hl hsorted hlt hsz hlisted hcl hs hrun
    have : l = [] := List.eq_nil_of_length_eq_zero hl
    subst this
    refine ⟨?_, hQ _ _ _ hrun hs⟩
    rw [List.eq_nil_iff_forall_not_mem]
    intro i hi
    obtain ⟨h1, h2, _⟩ := ready_mem hi
    have := (hlisted i h1).2 (by simp)
    simp [Array.getD_eq_getD_getElem?, show i < listed.size by omega] at h2 this
    simp [h2] at this
  | succ fuel ih =>
    intro l listed s a w hl hsorted hlt hsz hlisted hcl hs hrun
    refine ⟨fun hnone => ?_, fun i hi => ?_⟩
    · exfalso
      cases l with
      | nil => simp at hl
      | cons i0 l =>
        have hi0 := hlt i0 (by simp)
        have hmem : i0 ∈ Region.ready .any ops listed := by
          refine mem_ready (o := ops[i0]) hi0 ?_ (by simp [hi0]) (fun d hd => ?_)
          · have : ¬ listed.getD i0 false = true := fun h => ((hlisted i0 hi0).1 h) (by simp)
            simp [Array.getD_eq_getD_getElem?, show i0 < listed.size by omega] at this ⊢
            exact this
          · have hdlt := hdirect i0 hi0 d hd
            refine (hlisted d (by omega)).2 (fun hdm => ?_)
            rcases List.mem_cons.1 hdm with rfl | hdm
            · omega
            · have := List.rel_of_pairwise_cons hsorted hdm
              omega
        rw [hnone] at hmem
        cases hmem
    · obtain ⟨h1, h2, o, ho, h3⟩ := ready_mem hi
      have hil : i ∈ l := by
        rcases Classical.em (i ∈ l) with h | h
        · exact h
        · have := (hlisted i h1).2 h
          simp [Array.getD_eq_getD_getElem?, show i < listed.size by omega] at h2 this
          simp [h2] at this
      obtain ⟨l1, l2, rfl⟩ := List.append_of_mem hil
      have hp := List.pairwise_append.1 hsorted
      have hind : ∀ j ∈ l1, ∀ oj, ops[j]? = some oj → indepR tab ops oj o = true := by
        intro j hj oj hoj
        have hji : j < i := hp.2.2 j hj i (by simp)
        have h4 := List.all_eq_true.1 (List.all_eq_true.1 hpairs i (by simpa using h1)) j (by simpa using hji)
        rw [hoj, ho] at h4
        simp only [Bool.or_eq_true] at h4
        rcases h4 with h4 | h4
        · exfalso
          have := anc_listed hanc (fun k => listed.getD k false = true) hcl i h1 h3 j (by omega) h4
          exact ((hlisted j (by omega)).1 this) (by simp [hj])
        · exact h4
      have hfront := frontR (B := B) (w0 := w0) hsl hst i o ho l2 l1 s ⟨a, w, hs⟩ hind hrun
      simp only [dRunR, ho] at hfront
      obtain ⟨_, out, g1, d1, hrest⟩ := hfront
      have hg := aG_ok (B := B) (w0 := w0) (slotsOk_get hsl ho) (fun j' b _ d hd => slotsOk_guard hsl hd) (gOut_aG g1) hs Q
      have hsorted' : (l1 ++ l2).Pairwise (· < ·) := by
        refine List.pairwise_append.2 ⟨hp.1, (List.pairwise_cons.1 hp.2.1).2, fun x hx y hy => hp.2.2 x hx y (by simp [hy])⟩
      have hni : i ∉ l1 ++ l2 := by
        intro h
        rcases List.mem_append.1 h with h | h
        · have := hp.2.2 i h i (by simp); omega
        · have := List.rel_of_pairwise_cons hp.2.1 h; omega
      have hlisted' : ∀ j, j < ops.size → ((listed.setIfInBounds i true).getD j false = true ↔ j ∉ l1 ++ l2) := by
        intro j hj
        by_cases hji : j = i
        · subst hji
          simp only [hni, not_false_iff, iff_true]
          simp [Array.getD_eq_getD_getElem?, show j < listed.size by omega]
        · have e1 : (listed.setIfInBounds i true).getD j false = listed.getD j false := by
            simp only [Array.getD_eq_getD_getElem?, Array.getElem?_setIfInBounds]
            rw [if_neg (fun h => hji h.symm)]
          rw [e1, hlisted j hj]
          simp [hji]
      have hcl' : ∀ j, j < ops.size → (listed.setIfInBounds i true).getD j false = true → ∀ d ∈ direct ops j, (listed.setIfInBounds i true).getD d false = true := by
        intro j hj hjl d hd
        have hdj := hdirect j hj d hd
        have hkeep : listed.getD d false = true → (listed.setIfInBounds i true).getD d false = true := by
          intro h
          refine (hlisted' d (by omega)).2 (fun hm => ((hlisted d (by omega)).1 h) ?_)
          rcases List.mem_append.1 hm with hm | hm
          · simp [hm]
          · simp [hm]
        by_cases hji : j = i
        · subst hji; exact hkeep (h3 d hd)
        · have e1 : (listed.setIfInBounds i true).getD j false = listed.getD j false := by
            simp only [Array.getD_eq_getD_getElem?, Array.getElem?_setIfInBounds]
            rw [if_neg (fun h => hji h.symm)]
          exact hkeep (hcl j hj (by rw [← e1]; exact hjl) d hd)
      have hlen : (l1 ++ l2).length = fuel := by simp at hl ⊢; omega
      have hlt' : ∀ j ∈ l1 ++ l2, j < ops.size := fun j hj => hlt j (by
        rcases List.mem_append.1 hj with h | h
        · simp [h]
        · simp [h])
      unfold wpOp
      rw [ho]
      simp only
      split
      · rename_i hw
        rw [if_pos hw] at hg
        left
        exact Oper.wp_mono (fun a' w' ⟨s', e, h⟩ => by
          subst e
          exact ih _ _ _ a' w' hlen hsorted' hlt' (by simpa using hsz) hlisted' hcl' h hrest) hg
      · rename_i hw
        rw [if_neg hw] at hg
        obtain ⟨s', rfl, h⟩ := hg
        exact ih _ _ _ _ w hlen hsorted' hlt' (by simpa using hsz) hlisted' hcl' h hrest
def dWalkR (P : Program) (tab : Tab) (ops : Array Oper) : List Oper → AS → (AS → Prop) → Prop
  | [], s, K => K s
  | o :: r, s, K => ptrAt tab o s ∧ dG P ops o s fun s' => dWalkR P tab ops r s' K
theorem dRunR_of {tab : Tab} {ops : Array Oper} (hok : drawOkR tab ops = true) : ∀ (l : List Nat) (s : AS), (∀ i ∈ l, i < ops.size) → dWalkR P tab ops (l.filterMap (ops[·]?)) s K → dRunR P tab ops l s K := by
  simp only [drawOkR, Bool.and_eq_true] at hok
  obtain ⟨_, hall⟩ := hok
  intro l
  induction l with
  | nil => intro s _ h; exact h
  | cons i l ih =>
    intro s hi h
    have hlt := hi i (by simp)
    have ho : ops[i]? = some ops[i] := by simp [hlt]
    rw [List.filterMap_cons] at h
    simp only [ho] at h
    have hn : isNilTest ops[i] = false := by
      have := Array.all_eq_true_iff_forall_mem.1 hall ops[i] (Array.mem_of_getElem? ho)
      simp only [Bool.and_eq_true, Bool.not_eq_true'] at this
      exact this.1
    obtain ⟨hp, h⟩ := h
    obtain ⟨out, h1, h2, h3⟩ := dG_gOut hn h
    simp only [dRunR, ho]
    exact ⟨hp, out, h1, h2, ih _ (fun j hj => hi j (by simp [hj])) h3⟩
variable {Q : Exit → AS → Prop}
theorem awp_drawR {tab : Tab} {id : Nat} {ops : Array Oper} (hm : P.follows .mixedOrders = true) (hsl : slotsOk nt ops = true) (hok : drawOkR tab ops = true) (h : dWalkR P tab ops ops.toList s (Q .normal)) : AWp B nt w0 P (.region id ops true) Q s := by
  intro a w hs
  refine wp_region_any hm ?_
  have hs' : Sim B nt w0 s a { w with drawn := w.drawn + 1 } := by
    obtain ⟨gv, hs, hK⟩ := hs
    exact ⟨gv, hs.world (w' := { w with drawn := w.drawn + 1 }) ((Below.refl _ _).drew), hK.trans ⟨Nat.le_refl _, fun _ _ h => h, fun _ _ _ => rfl, fun _ => Nat.le_refl _, fun _ _ _ h => ⟨h, rfl⟩⟩⟩
  refine wpAny_ofR (K := Q .normal) hsl hok _ (fun s' a' w' h1 h2 => ⟨s', h1, h2⟩) ops.size (List.range ops.size) _ s a _ (by simp) List.pairwise_lt_range (fun i hi => by simpa using hi) (by simp) (fun i hi => ?_) (fun i hi hl d hd => ?_) hs' (dRunR_of hok _ _ (fun i hi => by simpa using hi) (by rw [filterMap_range]; exact h))
  · simp [Array.getD_eq_getD_getElem?, hi]
  · simp [Array.getD_eq_getD_getElem?, hi] at hl
end
end Go.AV
end
