/- Texts AvE1. -/
import Derived.Test.YtlgnflbekdldnaaGreatDoorAvK15
set_option linter.unusedVariables false
set_option linter.unusedSimpArgs false
set_option linter.unusedSectionVars false
noncomputable section
namespace Go.AV
open Go.RowKit
inductive GArg where
  | val (r : RV)
  | lend (rs : List R)
  deriving Inhabited
def OwnR (w : World) (ok : Nat → Prop) (E sz : Nat) (xs : List (List C)) (v : Value) : Prop :=
  ∃ vals, (∀ x ∈ xs, x.length = sz) ∧ w.ownsRow 0 E sz v xs.length vals ∧ RepCs w ok xs.flatten vals
def RepGC (w : World) (ok : Nat → Prop) : List R → List Value → List Value → Prop
  | [], [], gs => gs = []
  | .c x :: rs, v :: vs, gs => RepC w ok x v ∧ RepGC w ok rs vs gs
  | .own E sz xs :: rs, v :: vs, gs => ∃ gs', gs = v :: gs' ∧ OwnR w ok E sz xs v ∧ RepGC w ok rs vs gs'
  | _, _, _ => False
def RepGA (w : World) (ok : Nat → Prop) : List GArg → List Value → List Value → Prop
  | [], [], gs => gs = []
  | .val (.one r) :: asx, v :: vs, gs => ∃ g1 g2, gs = g1 ++ g2 ∧ RepGC w ok [r] [v] g1 ∧ RepGA w ok asx vs g2
  | .val (.agg rs) :: asx, v :: vs, gs => ∃ (us : Array Value) (g1 g2 : List Value), v = .agg us ∧ gs = g1 ++ g2 ∧ RepGC w ok rs us.toList g1 ∧ RepGA w ok asx vs g2
  | .lend rs :: asx, v :: vs, gs => ∃ (b : Nat) (us : Array Value) (T : TypeId) (g1 g2 : List Value), v = .pointer (some ⟨b, 0, none⟩) ∧ w.heap[b]? = some (.cells us T (0, 0)) ∧ gs = v :: (g1 ++ g2) ∧ RepGC w ok rs us.toList g1 ∧ RepGA w ok asx vs g2
  | _, _, _ => False
def mineOf (gs : List Value) (b : Nat) : Prop := ∃ g ∈ gs, blkOf g = some b
def mutPtrs : List GArg → List Value → List Value
  | .lend _ :: asx, v :: vs => v :: mutPtrs asx vs
  | .val _ :: asx, _ :: vs => mutPtrs asx vs
  | _, _ => []
def RepOuts (w : World) : List Value → List (List R) → List (List Value) → Prop
  | [], [], [] => True
  | p :: ps, rs :: os, vs :: ocs => (∃ (b : Nat) (us : Array Value) (T : TypeId), p = .pointer (some ⟨b, 0, none⟩) ∧ w.heap[b]? = some (.cells us T (0, 0)) ∧ us.toList = vs ∧ vs.length = rs.length) ∧ RepOuts w ps os ocs
  | _, _, _ => False
def SpecG (P : Program) (f : FuncId) (args : List GArg) (res : List RV) (outs : List (List R)) : Prop :=
  (∃ fn, P.funcs[f]? = some fn ∧ fn.body.isSome = true ∧ (fn.name == "runtime.NumGoroutine") = false) ∧ ∀ (w : World) (ok : Nat → Prop) (vs gs : List Value), RepGA w ok args vs gs → (gs.filterMap blkOf).Nodup → (∀ b, mineOf gs b → ¬ ok b) → Inv P w ok →
    Calls P f vs.toArray w fun e w' => ∃ us cs ocs, e = .returned (packRes us) ∧ Beneath (mineOf gs) w w' ∧ fitsAll res us cs ∧ RepOuts w' (mutPtrs args vs) outs ocs ∧
      RepRs (fun b => (w.heap.size ≤ b ∨ mineOf gs b) ∧ ∀ p ∈ mutPtrs args vs, blkOf p ≠ some b) w' ok (res.flatMap RV.cells ++ outs.flatten) (cs ++ ocs.flatten)
theorem repGC_pure {w : World} {ok : Nat → Prop} : ∀ (cs : List C) (vs gs : List Value), RepGC w ok (cs.map .c) vs gs → gs = [] ∧ RepCs w ok cs vs := by
  intro cs
  induction cs with
  | nil =>
    intro vs gs h
    cases vs with
    | nil => exact ⟨h, rfl, fun m hm => by simp at hm⟩
    | cons => exact h.elim
  | cons c cs ih =>
    intro vs gs h
    cases vs with
    | nil => exact h.elim
    | cons v vs =>
      obtain ⟨h1, h2⟩ := h
      obtain ⟨e, q1, q2⟩ := ih vs gs h2
      refine ⟨e, by simp [q1], fun m hm => ?_⟩
      cases m with
      | zero => exact h1
      | succ m => simpa using q2 m (by simpa using hm)
def DV.g : DV → GArg
  | .one c => .val (.one (.c c))
  | .agg cs => .val (.agg (cs.map .c))
theorem repGA_pure {w : World} {ok : Nat → Prop} : ∀ (ds : List DV) (vs gs : List Value), RepGA w ok (ds.map DV.g) vs gs → gs = [] ∧ RepDVs w ok ds vs ∧ mutPtrs (ds.map DV.g) vs = [] := by
  intro ds
  induction ds with
  | nil =>
    intro vs gs h
    cases vs with
    | nil => exact ⟨h, ⟨rfl, fun m hm => by simp at hm⟩, rfl⟩
    | cons => exact h.elim
  | cons d ds ih =>
    intro vs gs h
    cases vs with
    | nil => cases d <;> exact h.elim
    | cons v vs =>
      cases d with
      | one c =>
        obtain ⟨g1, g2, rfl, h1, h2⟩ := h
        obtain ⟨rfl, q1, q2⟩ := ih vs g2 h2
        obtain ⟨rfl, q3⟩ := repGC_pure [c] [v] g1 h1
        refine ⟨rfl, ⟨by simp [q1.1], fun m hm => ?_⟩, q2⟩
        cases m with
        | zero => exact q3.2 0 (by simp)
        | succ m => simpa using q1.2 m (by simpa using hm)
      | agg cs =>
        obtain ⟨us, g1, g2, rfl, rfl, h1, h2⟩ := h
        obtain ⟨rfl, q1, q2⟩ := ih vs g2 h2
        obtain ⟨rfl, q3⟩ := repGC_pure cs us.toList g1 h1
        refine ⟨rfl, ⟨by simp [q1.1], fun m hm => ?_⟩, q2⟩
        cases m with
        | zero => exact ⟨us, rfl, q3⟩
        | succ m => simpa using q1.2 m (by simpa using hm)
theorem Spec.g {P : Program} {f : FuncId} {args : List DV} {res : List RV} (h : Spec P f args res) : SpecG P f (args.map DV.g) res [] := by
  refine ⟨h.1, fun w ok vs gs hr _ _ hI => ?_⟩
  obtain ⟨rfl, h1, h2⟩ := repGA_pure args vs gs hr
  refine (h.2 w ok vs h1 hI).mono ?_
  rintro e w' ⟨v, rfl, hb, us, cs, rfl, hf, hrs⟩
  refine ⟨us, cs, [], rfl, ⟨hb.os, hb.tape, hb.output, hb.size, fun k hk _ => hb.block k hk⟩, hf, ?_, ?_⟩
  · rw [h2]; trivial
  · simp only [List.flatten_nil, List.append_nil]
    refine hrs.fr fun b => ⟨fun h => ⟨.inl h, by rw [h2]; intro p hp; simp at hp⟩, fun h => ?_⟩
    rcases h.1 with h | ⟨g, hg, _⟩
    · exact h
    · simp at hg
def blksC : List R → List Blk
  | [] => []
  | .c _ :: rs => blksC rs
  | .own E sz xs :: rs => .arr E sz xs :: blksC rs
def cellsI (i : Nat) : List R → List A
  | [] => []
  | .c x :: rs => .c x :: cellsI i rs
  | .own _ _ _ :: rs => .own i 0 :: cellsI (i + 1) rs
def blksA (i : Nat) : List GArg → List Blk
  | [] => []
  | .val r :: asx => blksC r.cells ++ blksA (i + (blksC r.cells).length) asx
  | .lend rs :: asx => .box (cellsI (i + 1) rs) :: (blksC rs ++ blksA (i + 1 + (blksC rs).length) asx)
def avsA (i : Nat) : List GArg → List AV
  | [] => []
  | .val (.one r) :: asx => .one ((cellsI i [r]).getD 0 .any) :: avsA (i + (blksC [r]).length) asx
  | .val (.agg rs) :: asx => .agg (cellsI i rs) :: avsA (i + (blksC rs).length) asx
  | .lend rs :: asx => .one (.ptr i 0 0) :: avsA (i + 1 + (blksC rs).length) asx
def mutH (i : Nat) : List GArg → List Nat
  | [] => []
  | .val r :: asx => mutH (i + (blksC r.cells).length) asx
  | .lend rs :: asx => i :: mutH (i + 1 + (blksC rs).length) asx
def AS.initG (args : List GArg) : AS :=
  { t := fun i => (avsA 0 args).getD i .undef, H := fun h v => if v = 0 then (blksA 0 args)[h]? else none, N := fun _ => 1 }
section
variable {B : Nat → Prop} {nt : Nat} {w0 : Base} {w : World} {s : AS} {a : Act} {gv : GV} {P : Program} {K : AS → Prop} {ok : Nat → Prop} [InvC P B w0]
theorem repGC_in (hN : ∀ h, s.N h = 1) (hok : ∀ b, ok b → okb B s gv b) (hfr : ∀ g, (∃ h, gv h 0 = g) → ∀ b, blkOf g = some b → w0.fr b) : ∀ (rs : List R) (us gs : List Value) (i : Nat), RepGC w ok rs us gs → (∀ j, j < gs.length → gv (i + j) 0 = gs.getD j Go.undef) →
    RepAs B w s gv (cellsI i rs) us ∧ gs.length = (blksC rs).length ∧ ∀ j blk, (blksC rs)[j]? = some blk → RepB B w0 w s gv (gs.getD j Go.undef) blk := by
  intro rs
  induction rs with
  | nil =>
    intro us gs i h hg
    cases us with
    | nil => obtain rfl := h; exact ⟨⟨rfl, fun m hm => by simp [cellsI] at hm⟩, rfl, fun j blk hj => by simp [blksC] at hj⟩
    | cons => exact h.elim
  | cons r rs ih =>
    intro us gs i h hg
    cases us with
    | nil => cases r <;> exact h.elim
    | cons v us =>
      cases r with
      | c x =>
        obtain ⟨h1, h2⟩ := h
        obtain ⟨⟨q1, q2⟩, q3, q4⟩ := ih us gs i h2 hg
        refine ⟨⟨by simp [cellsI, q1], fun m hm => ?_⟩, q3, q4⟩
        cases m with
        | zero => exact .c (h1.mono (fun b _ hb => hok b hb) (Nat.le_refl _) (fun _ _ _ => rfl))
        | succ m => simpa [cellsI] using q2 m (by simpa [cellsI] using hm)
      | own E sz xs =>
        obtain ⟨gs', rfl, ⟨vals, h3, h4, h5⟩, h2⟩ := h
        obtain ⟨⟨q1, q2⟩, q3, q4⟩ := ih us gs' (i + 1) h2 (fun j hj => by
          have := hg (j + 1) (by simpa using hj)
          rw [show i + (j + 1) = i + 1 + j by omega] at this
          simpa using this)
        have g0 := hg 0 (by simp)
        simp only [Nat.add_zero, List.getD_cons_zero] at g0
        refine ⟨⟨by simp [cellsI, q1], fun m hm => ?_⟩, by simp [blksC, q3], fun j blk hj => ?_⟩
        · cases m with
          | zero => exact .own (by rw [hN]; omega) (fun _ => g0.symm)
          | succ m => simpa [cellsI] using q2 m (by simpa [cellsI] using hm)
        · cases j with
          | zero =>
            simp only [blksC, List.getElem?_cons_zero, Option.some.injEq] at hj
            subst hj
            exact ⟨vals, h3, h4, fun b hb => hfr v ⟨i, g0⟩ b hb, h5.mono (fun b _ hb => hok b hb) (Nat.le_refl _) (fun _ _ _ => rfl)⟩
          | succ j => simpa [blksC] using q4 j blk (by simpa [blksC] using hj)
theorem repGA_in (hN : ∀ h, s.N h = 1) (hok : ∀ b, ok b → okb B s gv b) (hfr : ∀ g, (∃ h, gv h 0 = g) → ∀ b, blkOf g = some b → w0.fr b) : ∀ (asx : List GArg) (vs gs : List Value) (i : Nat), RepGA w ok asx vs gs → (∀ j, j < gs.length → gv (i + j) 0 = gs.getD j Go.undef) →
    vs.length = asx.length ∧ (avsA i asx).length = asx.length ∧ (∀ m, m < asx.length → RepAV B w s gv ((avsA i asx).getD m .undef) (vs.getD m Go.undef)) ∧ gs.length = (blksA i asx).length ∧ ∀ j blk, (blksA i asx)[j]? = some blk → s.H (i + j) 0 ≠ none → RepB B w0 w s gv (gs.getD j Go.undef) blk := by
  intro asx
  induction asx with
  | nil =>
    intro vs gs i h hg
    cases vs with
    | nil => obtain rfl := h; exact ⟨rfl, rfl, fun m hm => by simp at hm, rfl, fun j blk hj => by simp [blksA] at hj⟩
    | cons => exact h.elim
  | cons x asx ih =>
    intro vs gs i h hg
    cases vs with
    | nil =>
      match x with
      | .val (.one r) => exact h.elim
      | .val (.agg rs) => exact h.elim
      | .lend rs => exact h.elim
    | cons v vs =>
      have glue : ∀ (L1 L2 : List Blk) (g1 g2 : List Value), g1.length = L1.length → (∀ j blk, L1[j]? = some blk → RepB B w0 w s gv (g1.getD j Go.undef) blk) → (∀ j blk, L2[j]? = some blk → s.H (i + (L1.length + j)) 0 ≠ none → RepB B w0 w s gv (g2.getD j Go.undef) blk) →
          ∀ j blk, (L1 ++ L2)[j]? = some blk → s.H (i + j) 0 ≠ none → RepB B w0 w s gv ((g1 ++ g2).getD j Go.undef) blk := by
        intro L1 L2 g1 g2 hl k1 k2 j blk hj hH
        rcases Nat.lt_or_ge j L1.length with hlt | hge
        · rw [List.getElem?_append_left hlt] at hj
          rw [getD_app_l _ _ _ _ (by omega)]
          exact k1 j blk hj
        · rw [List.getElem?_append_right hge] at hj
          rw [getD_app_r _ _ _ _ (by omega), hl]
          exact k2 (j - L1.length) blk hj (by rw [show i + (L1.length + (j - L1.length)) = i + j by omega]; exact hH)
      match x with
      | .val (.one r) =>
        obtain ⟨g1, g2, rfl, h1, h2⟩ := h
        obtain ⟨p1, p2, p3⟩ := repGC_in hN hok hfr [r] [v] g1 i h1 (fun j hj => by
          have := hg j (by simp; omega)
          rwa [getD_app_l _ _ _ _ hj] at this)
        obtain ⟨q1, q2, q3, q4, q5⟩ := ih vs g2 (i + (blksC [r]).length) h2 (fun j hj => by
          have := hg (g1.length + j) (by simp; omega)
          rw [getD_app_r _ _ _ _ (by omega), Nat.add_sub_cancel_left] at this
          rw [← p2, Nat.add_assoc]; exact this)
        refine ⟨by simp [q1], by simp [avsA, q2], fun m hm => ?_, by simp [blksA, RV.cells, p2, q4], ?_⟩
        · cases m with
          | zero => exact .one (p1.2 0 (by cases r <;> simp [cellsI]))
          | succ m => simpa [avsA] using q3 m (by simpa using hm)
        · exact glue (blksC [r]) _ g1 g2 p2 p3 (fun j blk hj hH => q5 j blk hj (by rw [Nat.add_assoc]; exact hH))
      | .val (.agg rs) =>
        obtain ⟨us, g1, g2, rfl, rfl, h1, h2⟩ := h
        obtain ⟨p1, p2, p3⟩ := repGC_in hN hok hfr rs us.toList g1 i h1 (fun j hj => by
          have := hg j (by simp; omega)
          rwa [getD_app_l _ _ _ _ hj] at this)
        obtain ⟨q1, q2, q3, q4, q5⟩ := ih vs g2 (i + (blksC rs).length) h2 (fun j hj => by
          have := hg (g1.length + j) (by simp; omega)
          rw [getD_app_r _ _ _ _ (by omega), Nat.add_sub_cancel_left] at this
          rw [← p2, Nat.add_assoc]; exact this)
        refine ⟨by simp [q1], by simp [avsA, q2], fun m hm => ?_, by simp [blksA, RV.cells, p2, q4], ?_⟩
        · cases m with
          | zero => exact .agg p1
          | succ m => simpa [avsA] using q3 m (by simpa using hm)
        · exact glue (blksC rs) _ g1 g2 p2 p3 (fun j blk hj hH => q5 j blk hj (by rw [Nat.add_assoc]; exact hH))
      | .lend rs =>
        obtain ⟨b, us, T, g1, g2, rfl, hT, rfl, h1, h2⟩ := h
        have g0 := hg 0 (by simp)
        simp only [Nat.add_zero, List.getD_cons_zero] at g0
        obtain ⟨p1, p2, p3⟩ := repGC_in hN hok hfr rs us.toList g1 (i + 1) h1 (fun j hj => by
          have := hg (j + 1) (by simp; omega)
          rw [List.getD_cons_succ, getD_app_l _ _ _ _ hj] at this
          rw [show i + 1 + j = i + (j + 1) by omega]; exact this)
        obtain ⟨q1, q2, q3, q4, q5⟩ := ih vs g2 (i + 1 + (blksC rs).length) h2 (fun j hj => by
          have := hg (g1.length + j + 1) (by simp; omega)
          rw [List.getD_cons_succ, getD_app_r _ _ _ _ (by omega), Nat.add_sub_cancel_left] at this
          rw [← p2, show i + 1 + g1.length + j = i + (g1.length + j + 1) by omega]; exact this)
        refine ⟨by simp [q1], by simp [avsA, q2], fun m hm => ?_, by simp [blksA, p2, q4], ?_⟩
        · cases m with
          | zero => exact .one (.ptr (by rw [hN]; omega) (fun _ => ⟨b, by rw [g0]; rfl, rfl⟩))
          | succ m => simpa [avsA] using q3 m (by simpa using hm)
        · intro j blk hj hH
          cases j with
          | zero =>
            simp only [blksA, List.getElem?_cons_zero, Option.some.injEq] at hj
            subst hj
            exact ⟨b, us, T, rfl, hfr _ ⟨i, g0⟩ b rfl, hT, p1⟩
          | succ j =>
            simp only [blksA, List.getElem?_cons_succ] at hj
            rw [List.getD_cons_succ]
            rcases Nat.lt_or_ge j (blksC rs).length with hlt | hge
            · rw [List.getElem?_append_left hlt] at hj
              rw [getD_app_l _ _ _ _ (by omega)]
              exact p3 j blk hj
            · rw [List.getElem?_append_right hge] at hj
              rw [getD_app_r _ _ _ _ (by omega), p2]
              exact q5 (j - (blksC rs).length) blk hj (by rw [show i + 1 + (blksC rs).length + (j - (blksC rs).length) = i + (j + 1) by omega]; exact hH)
theorem SimG.retX {ok : Nat → Prop} (hB : ∀ b, B b → ok b ∨ w0.fr b) (hs : SimG B nt w0 s a w gv) (hx : List (Nat × Nat)) (hxo : ∀ p ∈ hx, ∃ cells, s.H p.1 p.2 = some (.box cells)) {xs : List A} {rs : List R} {vs : List Value} (hrep : RepAs B w s gv xs vs) (hr : retCs s xs rs) (hnd : (gives xs rs).Nodup) (hsh : ∀ p ∈ shows xs rs, p ∉ gives xs rs) :
    RepRs (fun b => w0.fr b ∧ ∀ p ∈ hx, blkOf (gv p.1 p.2) ≠ some b) w ok rs vs := by
  obtain ⟨hl, hget⟩ := retCs_get hr
  have hvl : vs.length = rs.length := by rw [hrep.1, hl]
  have hnb : ∀ h v E sz ys b, s.H h v = some (.arr E sz ys) → blkOf (gv h v) = some b → ∀ p ∈ hx, blkOf (gv p.1 p.2) ≠ some b := by
    intro h v E sz ys b hH hb p hp hpb
    obtain ⟨cells, hc⟩ := hxo p hp
    obtain ⟨e1, e2⟩ := hs.inj h v p.1 p.2 b (by rw [hH]; trivial) (by rw [hc]; trivial) hb hpb
    rw [e1, e2, hc] at hH
    cases hH
  -- an own result is a live row
  have hown : ∀ m, m < rs.length → ∀ b, ownOf (rs.getD m (.c .junk)) (vs.getD m Go.undef) = some b → ∃ h v E sz ys, xs.getD m .any = .own h v ∧ rs.getD m (.c .junk) = .own E sz ys ∧ s.H h v = some (.arr E sz ys) ∧ blkOf (gv h v) = some b := by
    intro m hm b hb
    have hg := hget m hm
    have hx := hrep.2 m (by omega)
    generalize hxe : xs.getD m .any = x at hg hx
    generalize hre : rs.getD m (.c .junk) = r at hg hb
    generalize hve : vs.getD m Go.undef = vv at hx hb
    cases r with
    | c => cases hb
    | own E sz ys =>
      cases x with
      | nil => cases hx; cases hb
      | own h v =>
        simp only [retC] at hg
        cases hx with
        | own hv hxx =>
          have := hxx (by rw [hg]; simp)
          rw [this] at hb
          exact ⟨h, v, E, sz, ys, rfl, rfl, hg, blkOf_ownBlock hb⟩
      | _ => simp [retC] at hg
  have hokmono : ∀ b, okb B s gv b → (ok b ∨ (w0.fr b ∧ ∀ p ∈ hx, blkOf (gv p.1 p.2) ≠ some b)) ∧ ∀ j, j < rs.length → ownOf (rs.getD j (.c .junk)) (vs.getD j Go.undef) ≠ some b := by
    intro b hb
    refine ⟨(hB b hb.1).elim .inl (fun h => .inr ⟨h, fun p hp => by
      obtain ⟨cells, hc⟩ := hxo p hp
      exact hb.2 p.1 p.2 (by rw [hc]; trivial)⟩), fun j hj e => ?_⟩
    obtain ⟨h, v, E, sz, ys, _, _, hH, hbk⟩ := hown j hj b e
    exact hb.2 h v (by rw [hH]; trivial) hbk
  refine ⟨hvl, fun m hm => ?_, fun i j b hi hj hbi hbj => ?_⟩
  · have hg := hget m hm
    have hx := hrep.2 m (by omega)
    generalize hxe : xs.getD m .any = x at hg hx
    generalize hre : rs.getD m (.c .junk) = r at hg
    cases x with
    | c x =>
      cases r with
      | c y =>
        simp only [retC] at hg
        subst hg
        cases hx with | c hx => exact hx.mono (fun b _ hb => hokmono b hb) (Nat.le_refl _) (fun _ _ _ => rfl)
      | own => simp [retC] at hg
    | nil =>
      generalize hve : vs.getD m Go.undef = v at hx
      cases hx
      cases r with
      | c y => simp only [retC] at hg; subst hg; exact .nil
      | own E sz ys =>
        simp only [retC] at hg
        subst hg
        exact ⟨[], by simp, World.ownsRow_nil _ _ _ _, by simp [Value.ownBlock], rfl, by simp⟩
    | own h v =>
      generalize hve : vs.getD m Go.undef = u at hx
      cases hx with
      | own hv hxx =>
        cases r with
        | own E sz ys =>
          simp only [retC] at hg
          have := hxx (by rw [hg]; simp)
          subst this
          obtain ⟨vals, h1, h2, h4, h3⟩ := hs.live h v _ hg
          exact ⟨vals, h1, h2, fun b hb => ⟨h4 b (blkOf_ownBlock hb), hnb h v _ _ _ b hg (blkOf_ownBlock hb)⟩, h3.mono (fun b _ hb => hokmono b hb) (Nat.le_refl _) (fun _ _ _ => rfl)⟩
        | c y =>
          simp only [retC] at hg
          rcases hg with ⟨E, sz, ys, hH, rfl⟩ | ⟨ys, hH, rfl⟩
          rotate_left
          · have := hxx (by rw [hH]; simp)
            subst this
            exact RepC.mono (hs.live h v _ hH) (fun b _ hb => hokmono b hb) (Nat.le_refl _) (fun _ _ _ => rfl)
          have := hxx (by rw [hH]; simp)
          subst this
          obtain ⟨vals, h1, h2, h4, h3⟩ := hs.live h v _ hH
          refine RepCs.sl h1 h2 (h3.mono (fun b _ hb => hokmono b hb) (Nat.le_refl _) (fun _ _ _ => rfl)) (fun b hb => ⟨.inr ⟨h4 b hb, hnb h v _ _ _ b hH hb⟩, fun j hj e => ?_⟩)
          obtain ⟨h', v', E', sz', ys', hxe', hre', hH', hbk'⟩ := hown j hj b e
          obtain ⟨rfl, rfl⟩ := hs.inj h v h' v' b (by rw [hH]; trivial) (by rw [hH']; trivial) hb hbk'
          exact hsh _ (shows_get m h v _ hm (by omega) hxe hre) (gives_get j h v E' sz' ys' hj (by omega) hxe' hre')
    | _ => simp [retC] at hg
  · obtain ⟨h, v, E, sz, ys, e1, e2, e3, e4⟩ := hown i hi b hbi
    obtain ⟨h', v', E', sz', ys', e1', e2', e3', e4'⟩ := hown j hj b hbj
    obtain ⟨rfl, rfl⟩ := hs.inj h v h' v' b (by rw [e3]; trivial) (by rw [e3']; trivial) e4 e4'
    exact gives_inj hnd i j h v E sz E' sz' ys ys' hi (by omega) hj (by omega) e1 e1' e2 e2'
theorem mutPtrs_eq : ∀ (asx : List GArg) (vs gs : List Value) (i : Nat) (G : Nat → Value), RepGA w ok asx vs gs → (∀ j, j < gs.length → G (i + j) = gs.getD j Go.undef) →
    mutPtrs asx vs = (mutH i asx).map G ∧ gs.length = (blksA i asx).length ∧ (∀ h ∈ mutH i asx, ∃ cells, i ≤ h ∧ (blksA i asx)[h - i]? = some (.box cells)) := by
  have hc : ∀ (rs : List R) (us g : List Value), RepGC w ok rs us g → g.length = (blksC rs).length := by
    intro rs
    induction rs with
    | nil => intro us g h; cases us with
      | nil => obtain rfl := h; rfl
      | cons => exact h.elim
    | cons r rs ih => intro us g h; cases us with
      | nil => cases r <;> exact h.elim
      | cons u us => cases r with
        | c x => exact ih us g h.2
        | own E sz xs => obtain ⟨g', rfl, _, h⟩ := h; simp [blksC, ih us g' h]
  intro asx
  induction asx with
  | nil => intro vs gs i G h hG; cases vs with
    | nil => obtain rfl := h; exact ⟨rfl, rfl, fun h hh => by simp [mutH] at hh⟩
    | cons => exact h.elim
  | cons x asx ih =>
    intro vs gs i G h hG
    cases vs with
    | nil =>
      match x with
      | .val (.one r) => exact h.elim
      | .val (.agg rs) => exact h.elim
      | .lend rs => exact h.elim
    | cons v vs =>
      have tailG : ∀ (k : Nat) (g1 g2 : List Value), gs = g1 ++ g2 → g1.length = k → ∀ j, j < g2.length → G (i + k + j) = g2.getD j Go.undef := by
        intro k g1 g2 e hk j hj
        have := hG (k + j) (by rw [e]; simp; omega)
        rw [e, getD_app_r _ _ _ _ (by omega), hk, Nat.add_sub_cancel_left] at this
        rw [Nat.add_assoc]; exact this
      have up : ∀ (k : Nat) (L1 L2 : List Blk), L1.length = k → (∀ h ∈ mutH (i + k) asx, ∃ cells, i + k ≤ h ∧ L2[h - (i + k)]? = some (.box cells)) → ∀ h ∈ mutH (i + k) asx, ∃ cells, i ≤ h ∧ (L1 ++ L2)[h - i]? = some (.box cells) := by
        intro k L1 L2 hk q h hh
        obtain ⟨cells, q1, q2⟩ := q h hh
        exact ⟨cells, by omega, by rw [List.getElem?_append_right (by omega), hk, show h - i - k = h - (i + k) by omega]; exact q2⟩
      match x with
      | .val (.one r) =>
        obtain ⟨g1, g2, e, h1, h2⟩ := h
        have hl := hc [r] [v] g1 h1
        obtain ⟨q1, q2, q3⟩ := ih vs g2 (i + (blksC [r]).length) G h2 (tailG _ g1 g2 e hl)
        exact ⟨q1, by simp [blksA, RV.cells, e, hl, q2], up _ (blksC [r]) _ rfl q3⟩
      | .val (.agg rs) =>
        obtain ⟨us, g1, g2, rfl, e, h1, h2⟩ := h
        have hl := hc rs us.toList g1 h1
        obtain ⟨q1, q2, q3⟩ := ih vs g2 (i + (blksC rs).length) G h2 (tailG _ g1 g2 e hl)
        exact ⟨q1, by simp [blksA, RV.cells, e, hl, q2], up _ (blksC rs) _ rfl q3⟩
      | .lend rs =>
        obtain ⟨b, us, T, g1, g2, rfl, hT, e, h1, h2⟩ := h
        have hl := hc rs us.toList g1 h1
        obtain ⟨q1, q2, q3⟩ := ih vs g2 (i + 1 + (blksC rs).length) G h2 (fun j hj => by
          have := tailG (1 + (blksC rs).length) (_ :: g1) g2 e (by simp [hl]; omega) j hj
          rwa [← Nat.add_assoc] at this)
        have g0 := hG 0 (by rw [e]; simp)
        rw [e] at g0
        simp only [Nat.add_zero, List.getD_cons_zero] at g0
        refine ⟨by simp [mutPtrs, mutH, q1, g0], by rw [e]; simp [blksA, hl, q2], fun h hh => ?_⟩
        rcases List.mem_cons.1 hh with rfl | hh
        · exact ⟨_, Nat.le_refl _, by simp [blksA]; rfl⟩
        · obtain ⟨cells, p1, p2⟩ := q3 h hh
          refine ⟨cells, by omega, ?_⟩
          have : h - i = (h - (i + 1 + (blksC rs).length)) + (blksC rs).length + 1 := by omega
          rw [this]
          simp only [blksA, List.getElem?_cons_succ]
          rw [List.getElem?_append_right (by omega), Nat.add_sub_cancel]
          exact p2
def AS.boxes (s : AS) : List Nat → Option (List (List A))
  | [] => some []
  | h :: hs => match s.H h 0, s.boxes hs with
    | some (.box cells), some l => some (cells :: l)
    | _, _ => none
def retG (P : Program) (s : AS) (rvs : List ResultVar) (res : List RV) (mh : List Nat) (outs : List (List R)) : Prop :=
  (∀ p t, ResultVar.cell p t ∈ rvs → ∀ ti, tiOf P t = some ti → ti.agg = false → ti.size = 1) ∧
  match retAVs P s rvs, s.boxes mh with
  | some avs, some oc => oc.map List.length = outs.map List.length ∧ match retForm avs res with
    | some cells => retCs s (cells ++ oc.flatten) (res.flatMap RV.cells ++ outs.flatten) ∧ (gives (cells ++ oc.flatten) (res.flatMap RV.cells ++ outs.flatten)).Nodup ∧
        ∀ p ∈ shows (cells ++ oc.flatten) (res.flatMap RV.cells ++ outs.flatten), p ∉ gives (cells ++ oc.flatten) (res.flatMap RV.cells ++ outs.flatten)
    | none => False
  | _, _ => False
theorem SimG.boxes (hs : SimG B nt w0 s a w gv) : ∀ (hh : List Nat) (oc : List (List A)) (outs : List (List R)), s.boxes hh = some oc → oc.map List.length = outs.map List.length →
    ∃ ocs, RepOuts w (hh.map fun h => gv h 0) outs ocs ∧ RepAs B w s gv oc.flatten ocs.flatten ∧ ∀ h ∈ hh, ∃ cells, s.H h 0 = some (.box cells) := by
  intro hh
  induction hh with
  | nil =>
    intro oc outs h hl
    simp [AS.boxes] at h
    subst h
    cases outs with
    | nil => exact ⟨[], trivial, ⟨rfl, fun m hm => by simp at hm⟩, fun h hh => by simp at hh⟩
    | cons => simp at hl
  | cons h hh ih =>
    intro oc outs hb hl
    simp only [AS.boxes] at hb
    split at hb
    · rename_i cells l h1 h2
      cases hb
      cases outs with
      | nil => simp at hl
      | cons rs outs =>
        simp only [List.map_cons, List.cons.injEq] at hl
        obtain ⟨ocs, q1, q2, q3⟩ := ih l outs h2 hl.2
        obtain ⟨b, vals, T, e1, e2, e3, e4⟩ := hs.live h 0 _ h1
        refine ⟨vals.toList :: ocs, ⟨⟨b, vals, T, e1, e3, rfl, by rw [e4.1, hl.1]⟩, q1⟩, ?_, fun k hk => ?_⟩
        · refine ⟨by simp only [List.flatten_cons, List.length_append, e4.1, q2.1], fun m hm => ?_⟩
          simp only [List.flatten_cons] at hm ⊢
          by_cases hlt : m < cells.length
          · rw [getD_app_l _ _ _ _ hlt, getD_app_l _ _ _ _ (by rw [e4.1]; exact hlt)]
            exact e4.2 m hlt
          · rw [getD_app_r _ _ _ _ (by omega), getD_app_r _ _ _ _ (by rw [e4.1]; omega), e4.1]
            exact q2.2 _ (by simp only [List.length_append] at hm; omega)
        · rcases List.mem_cons.1 hk with rfl | hk
          · exact ⟨cells, h1⟩
          · exact q3 k hk
    · cases hb
theorem RepAs.appd {xs ys : List A} {us vs : List Value} (h : RepAs B w s gv xs us) (k : RepAs B w s gv ys vs) : RepAs B w s gv (xs ++ ys) (us ++ vs) := by
  refine ⟨by simp [h.1, k.1], fun m hm => ?_⟩
  by_cases hlt : m < xs.length
  · rw [getD_app_l _ _ _ _ hlt, getD_app_l _ _ _ _ (by rw [h.1]; exact hlt)]
    exact h.2 m hlt
  · rw [getD_app_r _ _ _ _ (by omega), getD_app_r _ _ _ _ (by rw [h.1]; omega), h.1]
    exact k.2 _ (by simp at hm; omega)
theorem specG_of_body {f : FuncId} {fn : Func} {c : Code} {args : List GArg} {res : List RV} {outs : List (List R)} (hf : P.funcs[f]? = some fn) (hb : fn.body = some c) (hname : (fn.name == "runtime.NumGoroutine") = false) (hn : args.length ≤ fn.ntmps)
    (h : ∀ (B : Nat → Prop) (w0 : Base) [InvC P B w0], w0.os = AS.initG args → AWp B fn.ntmps w0 P c (fun e s => (e = .normal ∨ e = .ret) ∧ retG P s fn.results.toList res (mutH 0 args) outs) (AS.initG args)) : SpecG P f args res outs := by
  refine ⟨⟨fn, hf, by rw [hb]; rfl, hname⟩, fun w ok vs gs hargs hnd hdis hinv => ?_⟩
  refine calls_of_wp hf hb ?_
  let B : Nat → Prop := fun b => ok b ∨ w.heap.size ≤ b ∨ mineOf gs b
  let gv0 : GV := fun h v => gs.getD h Go.undef
  let w0 : Base := ⟨w, mineOf gs, w, AS.initG args, gv0⟩
  have hgl : gs.length = (blksA 0 args).length := (mutPtrs_eq args vs gs 0 (fun h => gs.getD h Go.undef) hargs (fun j _ => by simp)).2.1
  have hH : ∀ h v, (AS.initG args).H h v ≠ none → v = 0 ∧ h < gs.length := by
    intro h v hh
    simp only [AS.initG] at hh
    split at hh
    · rename_i e
      refine ⟨e, ?_⟩
      rcases Nat.lt_or_ge h gs.length with hl | hl
      · exact hl
      · exact absurd (List.getElem?_eq_none (by omega)) hh
    · exact absurd rfl hh
  have hmine : ∀ h v, (AS.initG args).H h v ≠ none → ∀ b, blkOf (gv0 h v) = some b → mineOf gs b := by
    intro h v hh b hbk
    obtain ⟨rfl, hlt⟩ := hH h v hh
    exact ⟨_, getD_mem gs Go.undef h hlt, hbk⟩
  have hokb : ∀ b, ok b → okb B (AS.initG args) gv0 b := fun b hb => ⟨.inl hb, fun h v hh hbk => hdis b (hmine h v hh.ne b hbk) hb⟩
  obtain ⟨q1, q2, q3, q4, q5⟩ := repGA_in (B := B) (s := AS.initG args) (gv := gv0) (w0 := w0) (w := w) (ok := ok) (fun _ => rfl) hokb (fun g hg b hbk => .inr (by
    obtain ⟨h, rfl⟩ := hg
    by_cases hlt : h < gs.length
    · exact ⟨_, getD_mem gs Go.undef h hlt, hbk⟩
    · simp only [gv0, List.getD_eq_getElem?_getD, List.getElem?_eq_none (by omega : gs.length ≤ h)] at hbk
      cases hbk)) args vs gs 0 hargs (fun j _ => by simp [gv0])
  have hs : SimG B fn.ntmps w0 (AS.initG args) { tmps := vs.toArray ++ Array.replicate (fn.ntmps - vs.toArray.size) Go.undef, defers := [] } w gv0 := by
    refine ⟨fun b hb => hb.elim (fun h => .inr (.inl h)) (fun h => .inr (.inr h)), rfl, by simp; omega, Beneath.refl _ _, fun h v hh => ?_, fun h v blk hh => ?_, fun h v h' v' b hh hh' hbk hbk' => ?_, fun i => ?_⟩
    · obtain ⟨rfl, _⟩ := hH h v hh
      show 0 < 1
      omega
    · obtain ⟨rfl, hlt⟩ := hH h v (by rw [hh]; simp)
      have hh' : (blksA 0 args)[h]? = some blk := by simpa [AS.initG] using hh
      exact q5 h blk hh' (by rw [Nat.zero_add, hh]; simp)
    · obtain ⟨rfl, hlt⟩ := hH h v hh.ne
      obtain ⟨rfl, hlt'⟩ := hH h' v' hh'.ne
      refine ⟨?_, rfl⟩
      simp only [gv0] at hbk hbk'
      rw [getD_lt _ _ _ hlt] at hbk
      rw [getD_lt _ _ _ hlt'] at hbk'
      have key : ∀ (l : List Value) (i j : Nat) (hi : i < l.length) (hj : j < l.length), (l.filterMap blkOf).Nodup → i < j → blkOf l[i] = some b → blkOf l[j] = some b → False := by
        intro l
        induction l with
        | nil => intro i j hi; simp at hi
        | cons x l ih =>
          intro i j hi hj hnd hij h1 h2
          cases j with
          | zero => omega
          | succ j =>
            cases i with
            | zero =>
              simp only [List.getElem_cons_zero] at h1
              simp only [List.getElem_cons_succ] at h2
              rw [List.filterMap_cons, h1] at hnd
              exact (List.nodup_cons.1 hnd).1 (List.mem_filterMap.2 ⟨_, List.getElem_mem (by simpa using hj), h2⟩)
            | succ i =>
              refine ih i j (by simpa using hi) (by simpa using hj) ?_ (by omega) (by simpa using h1) (by simpa using h2)
              rw [List.filterMap_cons] at hnd
              split at hnd
              · exact hnd
              · exact (List.nodup_cons.1 hnd).2
      rcases Nat.lt_trichotomy h h' with hlt2 | e | hlt2
      · exact (key gs h h' hlt hlt' hnd hlt2 hbk hbk').elim
      · exact e
      · exact (key gs h' h hlt' hlt hnd hlt2 hbk' hbk).elim
    · have e1 : (AS.initG args).t i = (avsA 0 args).getD i .undef := rfl
      rw [e1]
      by_cases hi : i < args.length
      · have e2 : (vs.toArray ++ Array.replicate (fn.ntmps - vs.toArray.size) Go.undef).getD i Go.undef = vs.getD i Go.undef := by
          simp only [Array.getD_eq_getD_getElem?, List.getD_eq_getElem?_getD]
          rw [Array.getElem?_append_left (by simp; omega)]
          simp
        rw [e2]
        exact q3 i hi
      · have : (avsA 0 args).getD i .undef = .undef := by rw [List.getD_eq_getElem?_getD, List.getElem?_eq_none (by omega)]; rfl
        rw [this]
        exact .undef
  haveI : InvC P B w0 := ⟨hinv.keep (Nat.le_refl _) (fun b _ hb => hokb b hb) (fun _ _ _ => rfl)⟩
  refine wp_mono (h B w0 rfl _ w ⟨_, hs, Keep.refl _ _ _ _⟩) ?_
  rintro e a' w' ⟨s', ⟨he, hret⟩, gv', hs', hK⟩
  have fin : a'.defers = [] ∧ ∃ v, (results fn a'.tmps).run P w' = .ok v w' ∧ ∃ us cs ocs, Ending.returned v = .returned (packRes us) ∧ Beneath (mineOf gs) w w' ∧ fitsAll res us cs ∧ RepOuts w' (mutPtrs args vs) outs ocs ∧
      RepRs (fun b => (w.heap.size ≤ b ∨ mineOf gs b) ∧ ∀ p ∈ mutPtrs args vs, blkOf p ≠ some b) w' ok (res.flatMap RV.cells ++ outs.flatten) (cs ++ ocs.flatten) := by
    refine ⟨hs'.defers, ?_⟩
    obtain ⟨hcell, hret⟩ := hret
    split at hret
    · rename_i avs oc havs hoc
      obtain ⟨hlen, hret⟩ := hret
      split at hret
      · rename_i cells hcells
        obtain ⟨h1, h2, h3⟩ := hret
        obtain ⟨us, p1, p2, p3⟩ := hs'.results (P := P) _ rfl _ avs hcell havs
        obtain ⟨cs, p4, p5⟩ := retForm_ok p2 p3 hcells
        obtain ⟨ocs, p6, p7, p8⟩ := hs'.boxes _ oc outs hoc hlen
        have hptr : mutPtrs args vs = (mutH 0 args).map fun h => gv' h 0 := by
          rw [(mutPtrs_eq args vs gs 0 (fun h => gs.getD h Go.undef) hargs (fun j _ => by simp)).1]
          refine List.map_congr_left fun h hh => ?_
          obtain ⟨cells', hc'⟩ := p8 h hh
          exact (hK.old h 0 (by show 0 < 1; omega) (by rw [hc']; simp)).2.symm
        have hrs := hs'.retX (ok := ok) (fun b hb => hb.elim .inl (fun h => .inr h)) ((mutH 0 args).map fun h => (h, 0)) (fun p hp => by
          obtain ⟨h, hh, rfl⟩ := List.mem_map.1 hp
          exact p8 h hh) (p5.appd p7) h1 h2 h3
        refine ⟨packRes us, ?_, us, cs, ocs, rfl, hs'.below, p4, by rw [hptr]; exact p6, hrs.fr fun b => ⟨fun h => ⟨h.1, fun p hp => ?_⟩, fun h => ⟨h.1, fun p hp => ?_⟩⟩⟩
        · have hm : (fn.results.mapM fun (rv : ResultVar) => (match rv with
              | .tmp t => (pure (a'.tmps.getD t Go.undef) : Sem Value)
              | .cell p t => do loadVar t (← asAddr (a'.tmps.getD p Go.undef)))).run P w' = .ok us.toArray w' := by
            rw [Array.mapM_eq_mapM_toList]
            simp only [Sem.run_map]
            erw [p1]
            rfl
          have he : results fn a'.tmps = ((fn.results.mapM fun (rv : ResultVar) => (match rv with
              | .tmp t => (pure (a'.tmps.getD t Go.undef) : Sem Value)
              | .cell p t => do loadVar t (← asAddr (a'.tmps.getD p Go.undef)))) >>= fun vs => pure (if h : vs.size = 1 then vs[0] else .tuple vs)) := rfl
          rw [he, Sem.run_bind, hm]
          simp only [Result.andThen_ok, Sem.run_pure]
          congr 1
          match us with
          | [] => rfl
          | [x] => rfl
          | x :: y :: l => rfl
        · rw [hptr] at hp
          obtain ⟨h', hh, rfl⟩ := List.mem_map.1 hp
          exact h.2 (h', 0) (List.mem_map.2 ⟨h', hh, rfl⟩)
        · obtain ⟨h', hh, rfl⟩ := List.mem_map.1 hp
          exact h.2 _ (by rw [hptr]; exact List.mem_map.2 ⟨h', hh, rfl⟩)
      · exact hret.elim
    · exact hret.elim
  rcases he with rfl | rfl <;> exact fin
end
end Go.AV
namespace Go.AV
open Go.RowKit
def mapO {α β : Type} (f : α → Option β) : List α → Option (List β)
  | [] => some []
  | x :: xs => match f x, mapO f xs with
    | some y, some ys => some (y :: ys)
    | _, _ => none
def catO {α β : Type} (f : α → List β) : List α → List β
  | [] => []
  | x :: xs => f x ++ catO f xs
def AS.vw (s : AS) : Nat → A → Option C
  | 0, .c x => some x
  | 0, .nil => some (.sl [])
  | 0, .own h v => match s.H h v with
    | some (.arr _ _ xs) => some (.sl xs)
    | some (.frz c) => some c
    | some (.map agg ks vs) => some (.map agg ks vs)
    | _ => none
  | 0, _ => none
  | n + 1, .c x => some x
  | n + 1, .nil => some (.sl [])
  | n + 1, .own h v => match s.H h v with
    | some (.arr _ _ xs) => some (.sl xs)
    | some (.frz c) => some c
    | some (.map agg ks vs) => some (.map agg ks vs)
    | _ => none
  | n + 1, .ptr h v off => match s.H h v with
    | some (.box cells) => bif Nat.ble off cells.length then (mapO (s.vw n) (cells.drop off)).map .ptr else none
    | _ => none
  | n + 1, .fn f caps => (mapO (s.vw n) caps).map (.fn f)
  | n + 1, _ => none
def AS.ln (s : AS) : Nat → A → List (Nat × Nat)
  | 0, .own h v => [(h, v)]
  | 0, _ => []
  | n + 1, .own h v => [(h, v)]
  | n + 1, .ptr h v off => match s.H h v with
    | some (.box cells) => (h, v) :: catO (s.ln n) (cells.drop off)
    | _ => []
  | n + 1, .fn f caps => catO (s.ln n) caps
  | n + 1, _ => []
theorem views_mapO (s : AS) (n : Nat) (h : ∀ x, s.view n x = s.vw n x) : ∀ xs, s.views n xs = mapO (s.vw n) xs := by
  intro xs
  induction xs with
  | nil => simp only [AS.views, mapO]
  | cons x xs ih => simp only [AS.views, mapO, h, ih]; cases s.vw n x <;> cases mapO (s.vw n) xs <;> rfl
theorem view_vw (s : AS) : ∀ (n : Nat) (x : A), s.view n x = s.vw n x := by
  intro n
  induction n with
  | zero => intro x; cases x <;> simp only [AS.view, AS.vw] <;> rfl
  | succ n ih =>
    intro x
    cases x with
    | ptr h v off =>
      simp only [AS.view, AS.vw]
      cases e : s.H h v with
      | none => rfl
      | some b =>
        cases b with
        | box cells =>
          simp only
          rw [views_mapO s n ih]
          by_cases hle : off ≤ cells.length
          · rw [if_pos hle, Nat.ble_eq_true_of_le hle]; rfl
          · have : Nat.ble off cells.length = false := by
              rw [← Bool.not_eq_true]; intro e; exact hle (Nat.le_of_ble_eq_true e)
            rw [if_neg hle, this]; rfl
        | _ => rfl
    | fn f caps => simp only [AS.view, AS.vw, views_mapO s n ih]
    | own h v => simp only [AS.view, AS.vw]; rfl
    | _ => simp only [AS.view, AS.vw]
theorem views_vw (s : AS) (n : Nat) (xs : List A) : s.views n xs = mapO (s.vw n) xs := views_mapO s n (view_vw s n) xs
theorem lents_catO (s : AS) (n : Nat) (h : ∀ x, s.lent n x = s.ln n x) : ∀ xs, s.lents n xs = catO (s.ln n) xs := by
  intro xs
  induction xs with
  | nil => simp only [AS.lents, catO]
  | cons x xs ih => simp only [AS.lents, catO, h, ih]
theorem lent_ln (s : AS) : ∀ (n : Nat) (x : A), s.lent n x = s.ln n x := by
  intro n
  induction n with
  | zero => intro x; cases x <;> simp only [AS.lent, AS.ln]
  | succ n ih =>
    intro x
    cases x with
    | ptr h v off =>
      simp only [AS.lent, AS.ln]
      cases e : s.H h v with
      | none => rfl
      | some b =>
        cases b with
        | box cells => simp only; rw [lents_catO s n ih]
        | _ => rfl
    | fn f caps => simp only [AS.lent, AS.ln, lents_catO s n ih]
    | _ => simp only [AS.lent, AS.ln]
theorem lents_ln (s : AS) (n : Nat) (xs : List A) : s.lents n xs = catO (s.ln n) xs := lents_catO s n (lent_ln s n) xs
def AS.vwV (s : AS) : AV → Option DV
  | .one x => (s.vw 3 x).map .one
  | .agg asx => (mapO (s.vw 3) asx).map .agg
  | _ => none
def AS.vwVs (s : AS) : List AV → Option (List DV)
  | [] => some []
  | x :: xs => match s.vwV x, s.vwVs xs with
    | some y, some ys => some (y :: ys)
    | _, _ => none
def AS.lnV (s : AS) : AV → List (Nat × Nat)
  | .one x => s.ln 3 x
  | .agg asx => catO (s.ln 3) asx
  | _ => []
def AS.lnVs (s : AS) : List AV → List (Nat × Nat)
  | [] => []
  | x :: xs => s.lnV x ++ s.lnVs xs
def AS.cle (s : AS) : A → Option (FuncId × List C)
  | .fn f caps => (mapO (s.vw 3) caps).map fun cs => (f, cs)
  | .c (.fn f cs) => some (f, cs)
  | _ => none
def AS.lnF (s : AS) : A → List (Nat × Nat)
  | .fn _ caps => catO (s.ln 3) caps
  | _ => []
theorem viewVs_vw (s : AS) : ∀ xs, s.viewVs xs = s.vwVs xs := by
  have one : ∀ x, s.viewV x = s.vwV x := by
    intro x
    cases x <;> simp only [AS.viewV, AS.vwV, view_vw, views_vw]
  intro xs
  induction xs with
  | nil => rfl
  | cons x xs ih => simp only [AS.viewVs, AS.vwVs, one, ih]; cases s.vwV x <;> cases s.vwVs xs <;> rfl
theorem lentVs_ln (s : AS) : ∀ xs, s.lentVs xs = s.lnVs xs := by
  have one : ∀ x, s.lentV x = s.lnV x := by
    intro x
    cases x <;> simp only [AS.lentV, AS.lnV, lent_ln, lents_ln]
  intro xs
  induction xs with
  | nil => rfl
  | cons x xs ih => simp only [AS.lentVs, AS.lnVs, one, ih]
theorem callee_cle (s : AS) (x : A) : s.callee x = s.cle x := by
  cases x with
  | fn f caps => simp only [AS.callee, AS.cle, views_vw]
  | c y => cases y <;> rfl
  | _ => rfl
theorem lentF_ln (s : AS) (x : A) : s.lentF x = s.lnF x := by
  cases x <;> simp only [AS.lentF, AS.lnF, lents_ln]
abbrev Form := Option (TypeId × Nat)
inductive GForm where
  | one (o : Form)
  | agg (os : List Form)
  | lend (os : List Form)
def AS.rdR (s : AS) (x : A) (o : Form) : Option R :=
  match o with
  | none => (s.vw 3 x).map .c
  | some (E, sz) => match x with
    | .own h v => match s.H h v with
      | some (.arr E' sz' xs) => if E' = E ∧ sz' = sz then some (.own E sz xs) else none
      | _ => none
    | .nil => some (.own E sz [])
    | _ => none
def givR (x : A) (o : Form) : List (Nat × Nat) :=
  match o, x with
  | some _, .own h v => [(h, v)]
  | _, _ => []
def AS.lentR (s : AS) (x : A) (o : Form) : List (Nat × Nat) :=
  match o with
  | none => s.ln 3 x
  | some _ => []
def AS.rdRs (s : AS) : List A → List Form → Option (List R)
  | [], [] => some []
  | x :: xs, o :: os => match s.rdR x o, s.rdRs xs os with
    | some r, some rs => some (r :: rs)
    | _, _ => none
  | _, _ => none
def givRs : List A → List Form → List (Nat × Nat)
  | x :: xs, o :: os => givR x o ++ givRs xs os
  | _, _ => []
def AS.lentRs (s : AS) : List A → List Form → List (Nat × Nat)
  | x :: xs, o :: os => s.lentR x o ++ s.lentRs xs os
  | _, _ => []
def AS.rdG (s : AS) (x : AV) (f : GForm) : Option GArg :=
  match f, x with
  | .one o, .one x => (s.rdR x o).map fun r => .val (.one r)
  | .agg os, .agg xs => (s.rdRs xs os).map fun rs => .val (.agg rs)
  | .lend os, .one (.ptr h v 0) => match s.H h v with
    | some (.box cells) => (s.rdRs cells os).map .lend
    | _ => none
  | _, _ => none
def AS.givG (s : AS) (x : AV) (f : GForm) : List (Nat × Nat) :=
  match f, x with
  | .one o, .one x => givR x o
  | .agg os, .agg xs => givRs xs os
  | .lend os, .one (.ptr h v 0) => (h, v) :: (match s.H h v with
    | some (.box cells) => givRs cells os
    | _ => [])
  | _, _ => []
def AS.lentG (s : AS) (x : AV) (f : GForm) : List (Nat × Nat) :=
  match f, x with
  | .one o, .one x => s.lentR x o
  | .agg os, .agg xs => s.lentRs xs os
  | .lend os, .one (.ptr h v 0) => (match s.H h v with
    | some (.box cells) => s.lentRs cells os
    | _ => [])
  | _, _ => []
def mutG (x : AV) (f : GForm) : List (Nat × Nat) :=
  match f, x with
  | .lend _, .one (.ptr h v 0) => [(h, v)]
  | _, _ => []
def AS.rdGs (s : AS) : List AV → List GForm → Option (List GArg)
  | [], [] => some []
  | x :: xs, f :: fs => match s.rdG x f, s.rdGs xs fs with
    | some r, some rs => some (r :: rs)
    | _, _ => none
  | _, _ => none
def AS.givGs (s : AS) : List AV → List GForm → List (Nat × Nat)
  | x :: xs, f :: fs => s.givG x f ++ s.givGs xs fs
  | _, _ => []
def AS.lentGs (s : AS) : List AV → List GForm → List (Nat × Nat)
  | x :: xs, f :: fs => s.lentG x f ++ s.lentGs xs fs
  | _, _ => []
def mutGs : List AV → List GForm → List (Nat × Nat)
  | x :: xs, f :: fs => mutG x f ++ mutGs xs fs
  | _, _ => []
def AS.boxesR (s : AS) (base : Nat) : List (List R) → List (List A)
  | [] => []
  | rs :: os => s.cellsR base rs :: s.boxesR (base + rs.length) os
def findBox : List (Nat × Nat) → List (List A) → Nat → Nat → Option (List A)
  | (h, v) :: ms, c :: cs, i, u => if i = h ∧ u = v then some c else findBox ms cs i u
  | _, _, _, _ => none
def AS.setB (s : AS) (ms : List (Nat × Nat)) (cs : List (List A)) : AS :=
  { s with H := fun i u => match findBox ms cs i u with | some c => some (.box c) | none => s.H i u }
def AS.callG (s : AS) (kl G ms : List (Nat × Nat)) (base : Nat) (res : List RV) (outs : List (List R)) : AS :=
  (((s.frzs kl).kills G).take base (res.flatMap RV.cells ++ outs.flatten)).setB ms ((s.frzs kl).boxesR (base + (res.flatMap RV.cells).length) outs)
section
variable {B : Nat → Prop} {nt : Nat} {w0 : Base} {w : World} {s : AS} {a : Act} {gv : GV} {P : Program} {o : Oper} {K : AS → Prop} [InvC P B w0]
abbrev blks (gv : GV) (l : List (Nat × Nat)) : List Nat := l.filterMap fun p => blkOf (gv p.1 p.2)
theorem SimG.rdRs_ok (hs : SimG B nt w0 s a w gv) (l : List (Nat × Nat)) : ∀ (xs : List A) (os : List Form) (rs : List R) (us : List Value), s.rdRs xs os = some rs → RepAs B w s gv xs us → (∀ p ∈ s.lentRs xs os, p ∈ l) →
    ∃ gs, RepGC w (lentOk B s gv l) rs us gs ∧ gs.filterMap blkOf = blks gv (givRs xs os) ∧ ∀ p ∈ givRs xs os, ∃ E sz ys, s.H p.1 p.2 = some (.arr E sz ys) := by
  intro xs
  induction xs with
  | nil =>
    intro os rs us h hr hl
    cases os with
    | cons => simp [AS.rdRs] at h
    | nil =>
      simp [AS.rdRs] at h
      subst h
      have : us = [] := List.eq_nil_of_length_eq_zero hr.1
      subst this
      exact ⟨[], rfl, rfl, fun p hp => by simp [givRs] at hp⟩
  | cons x xs ih =>
    intro os rs us h hr hl
    cases os with
    | nil => simp [AS.rdRs] at h
    | cons o os =>
      simp only [AS.rdRs] at h
      split at h
      · rename_i r rs' h1 h2
        cases h
        cases us with
        | nil => have := hr.1; simp at this
        | cons v us =>
          have hx : RepA B w s gv x v := hr.2 0 (by simp)
          obtain ⟨gs, q1, q2, q3⟩ := ih os rs' us h2 ⟨by simpa using hr.1, fun m hm => by simpa using hr.2 (m + 1) (by simpa using hm)⟩ (fun p hp => hl p (by simp only [AS.lentRs]; exact List.mem_append_right _ hp))
          cases o with
          | none =>
            simp only [AS.rdR, ← view_vw, Option.map_eq_some_iff] at h1
            obtain ⟨c, hc, rfl⟩ := h1
            refine ⟨gs, ⟨(hs.view_aux l 3).1 _ _ _ hx hc (fun p hp => hl p (by simp only [AS.lentRs, AS.lentR, ← lent_ln]; exact List.mem_append_left _ hp)), q1⟩, by simpa [givRs, givR] using q2, fun p hp => q3 p (by simpa [givRs, givR] using hp)⟩
          | some T =>
            obtain ⟨E, sz⟩ := T
            simp only [AS.rdR] at h1
            split at h1
            · rename_i i u
              split at h1
              · rename_i E' sz' ys hH
                split at h1
                · rename_i he
                  obtain ⟨rfl, rfl⟩ := he
                  cases h1
                  cases hx with
                  | own hv hxx =>
                    have := hxx (by rw [hH]; simp)
                    subst this
                    obtain ⟨vals, g1, g2, _, g4⟩ := hs.live i u _ hH
                    refine ⟨gv i u :: gs, ⟨gs, rfl, ⟨vals, g1, g2, g4.mono (fun b _ hb => lentOk_of hb) (Nat.le_refl _) (fun _ _ _ => rfl)⟩, q1⟩, ?_, fun p hp => ?_⟩
                    · simp only [givRs, givR, blks, List.singleton_append, List.filterMap_cons]
                      rw [q2]
                    · rcases List.mem_cons.1 (by simpa [givRs, givR] using hp : p ∈ (i, u) :: givRs xs os) with rfl | hp
                      · exact ⟨_, _, _, hH⟩
                      · exact q3 p hp
                · cases h1
              · cases h1
            · cases h1
              cases hx
              exact ⟨_ :: gs, ⟨gs, rfl, ⟨[], by simp, World.ownsRow_nil _ _ _ _, rfl, fun m hm => by simp at hm⟩, q1⟩, (by rw [List.filterMap_cons_none rfl, q2]; simp [givRs, givR]), fun p hp => q3 p (by simpa [givRs, givR] using hp)⟩
            · cases h1
      · cases h
theorem SimG.rdGs_ok (hs : SimG B nt w0 s a w gv) (l : List (Nat × Nat)) : ∀ (xs : List AV) (fs : List GForm) (rs : List GArg) (us : List Value), s.rdGs xs fs = some rs → us.length = xs.length → (∀ m, m < xs.length → RepAV B w s gv (xs.getD m .undef) (us.getD m Go.undef)) → (∀ p ∈ s.lentGs xs fs, p ∈ l) →
    ∃ gs, RepGA w (lentOk B s gv l) rs us gs ∧ gs.filterMap blkOf = blks gv (s.givGs xs fs) ∧ (∀ p ∈ s.givGs xs fs, Ow (s.H p.1 p.2)) ∧ mutPtrs rs us = (mutGs xs fs).map (fun p => gv p.1 p.2) ∧
      (∀ p ∈ mutGs xs fs, p ∈ s.givGs xs fs ∧ ∃ cells, s.H p.1 p.2 = some (.box cells)) := by
  intro xs
  induction xs with
  | nil =>
    intro fs rs us h hn hr hl
    cases fs with
    | cons => simp [AS.rdGs] at h
    | nil =>
      simp [AS.rdGs] at h
      subst h
      have : us = [] := List.eq_nil_of_length_eq_zero (by simpa using hn)
      subst this
      exact ⟨[], rfl, rfl, fun p hp => by simp [AS.givGs] at hp, rfl, fun p hp => by simp [mutGs] at hp⟩
  | cons x xs ih =>
    intro fs rs us h hn hr hl
    cases fs with
    | nil => simp [AS.rdGs] at h
    | cons f fs =>
      simp only [AS.rdGs] at h
      split at h
      · rename_i r rs' h1 h2
        cases h
        cases us with
        | nil => simp at hn
        | cons v us =>
          have hx : RepAV B w s gv x v := hr 0 (by simp)
          obtain ⟨gs, q1, q2, q3, q4, q5⟩ := ih fs rs' us h2 (by simpa using hn) (fun m hm => by simpa using hr (m + 1) (by simpa using hm)) (fun p hp => hl p (by simp only [AS.lentGs]; exact List.mem_append_right _ hp))
          have hl1 : ∀ p ∈ s.lentG x f, p ∈ l := fun p hp => hl p (by simp only [AS.lentGs]; exact List.mem_append_left _ hp)
          have mid : ∀ (g1 : List Value) (L : List (Nat × Nat)), s.givG x f = L → g1.filterMap blkOf = blks gv L → (g1 ++ gs).filterMap blkOf = blks gv (s.givGs (x :: xs) (f :: fs)) := by
            intro g1 L hL hg
            simp only [AS.givGs, blks, List.filterMap_append] at hg ⊢
            rw [hL, hg, q2]
          have ow : (∀ p ∈ s.givG x f, Ow (s.H p.1 p.2)) → ∀ p ∈ s.givGs (x :: xs) (f :: fs), Ow (s.H p.1 p.2) := by
            intro k p hp
            simp only [AS.givGs] at hp
            exact (List.mem_append.1 hp).elim (k p) (q3 p)
          cases f with
          | one fo =>
            cases x with
            | one x =>
              simp only [AS.rdG, Option.map_eq_some_iff] at h1
              obtain ⟨r1, hr1, rfl⟩ := h1
              cases hx with
              | one hx =>
                obtain ⟨g1, p1, p2, p3⟩ := hs.rdRs_ok l [x] [fo] [r1] [v] (by simp [AS.rdRs, hr1]) ⟨rfl, fun m hm => by
                  have : m = 0 := by simpa using hm
                  subst this
                  exact hx⟩ (fun p hp => hl1 p (by simpa [AS.lentRs, AS.lentG] using hp))
                refine ⟨g1 ++ gs, ⟨g1, gs, rfl, p1, q1⟩, mid g1 (givRs [x] [fo]) (by simp [AS.givG, givRs]) p2, ow (fun p hp => ?_), by simpa [mutPtrs, mutGs, mutG] using q4, fun p hp => ?_⟩
                · obtain ⟨E, sz, ys, e⟩ := p3 p (by simpa [givRs, AS.givG] using hp)
                  rw [e]; trivial
                · have := q5 p (by simpa [mutGs, mutG] using hp)
                  exact ⟨by simp only [AS.givGs]; exact List.mem_append_right _ this.1, this.2⟩
            | _ => simp [AS.rdG] at h1
          | agg os =>
            cases x with
            | agg ys =>
              simp only [AS.rdG, Option.map_eq_some_iff] at h1
              obtain ⟨r1, hr1, rfl⟩ := h1
              cases hx with
              | @agg _ vs hx =>
                obtain ⟨g1, p1, p2, p3⟩ := hs.rdRs_ok l ys os r1 vs.toList hr1 hx (fun p hp => hl1 p (by simpa [AS.lentG] using hp))
                refine ⟨g1 ++ gs, ⟨vs, g1, gs, rfl, rfl, p1, q1⟩, mid g1 (givRs ys os) (by simp [AS.givG]) p2, ow (fun p hp => ?_), by simpa [mutPtrs, mutGs, mutG] using q4, fun p hp => ?_⟩
                · obtain ⟨E, sz, zs, e⟩ := p3 p (by simpa [AS.givG] using hp)
                  rw [e]; trivial
                · have := q5 p (by simpa [mutGs, mutG] using hp)
                  exact ⟨by simp only [AS.givGs]; exact List.mem_append_right _ this.1, this.2⟩
            | _ => simp [AS.rdG] at h1
          | lend os =>
            simp only [AS.rdG] at h1
            split at h1
            all_goals rename_i he
            all_goals first
              | (cases he; done)
              | skip
            all_goals try (injection he; done)
            case h_3 i u =>
              split at h1
              · rename_i cells hH
                simp only [Option.map_eq_some_iff] at h1
                obtain ⟨r1, hr1, rfl⟩ := h1
                obtain ⟨b, vals, T, e1, e2, e3, e4⟩ := hs.live i u _ hH
                cases hx with
                | one hx =>
                  cases hx with
                  | ptr hv hxx =>
                    obtain ⟨b', hb', rfl⟩ := hxx (by rw [hH]; simp)
                    have hbb : b' = b := by rw [e1] at hb'; simpa [blkOf] using hb'.symm
                    subst hbb
                    cases he
                    obtain ⟨g1, p1, p2, p3⟩ := hs.rdRs_ok l cells _ r1 vals.toList hr1 e4 (fun p hp => hl1 p (by simpa [AS.lentG, hH] using hp))
                    refine ⟨_ :: (g1 ++ gs), ⟨b', vals, T, g1, gs, rfl, e3, rfl, p1, q1⟩, ?_, ow (fun p hp => ?_), ?_, fun p hp => ?_⟩
                    · have := mid (gv i u :: g1) ((i, u) :: givRs cells os) (by simp [AS.givG, hH]) (by
                        have p2' : List.filterMap blkOf g1 = List.filterMap (fun p => blkOf (gv p.1 p.2)) (givRs cells os) := p2
                        show List.filterMap blkOf (gv i u :: g1) = List.filterMap (fun p => blkOf (gv p.1 p.2)) ((i, u) :: givRs cells os)
                        rw [List.filterMap_cons, List.filterMap_cons, p2'])
                      rw [e1] at this
                      simpa using this
                    · rcases List.mem_cons.1 (by simpa [AS.givG, hH] using hp : p ∈ (i, u) :: givRs cells _) with rfl | hp
                      · rw [hH]; trivial
                      · obtain ⟨E, sz, zs, e⟩ := p3 p hp
                        rw [e]; trivial
                    · simp [mutPtrs, mutGs, mutG, q4, e1]
                    · rcases List.mem_cons.1 (by simpa [mutGs, mutG] using hp : p ∈ (i, u) :: mutGs xs fs) with rfl | hp
                      · exact ⟨by simp [AS.givGs, AS.givG], cells, hH⟩
                      · have := q5 p hp
                        exact ⟨by simp only [AS.givGs]; exact List.mem_append_right _ this.1, this.2⟩
              · cases h1
            all_goals (cases h1)
      · cases h
theorem findBox_some {ms : List (Nat × Nat)} {cs : List (List A)} {i u : Nat} {c : List A} (h : findBox ms cs i u = some c) : ∃ k : Nat, ms[k]? = some (i, u) ∧ cs[k]? = some c := by
  induction ms generalizing cs with
  | nil => simp [findBox] at h
  | cons p ms ih =>
    obtain ⟨h', v'⟩ := p
    cases cs with
    | nil => simp [findBox] at h
    | cons d cs =>
      simp only [findBox] at h
      split at h
      · rename_i e
        cases h
        exact ⟨0, by simp [e.1, e.2], rfl⟩
      · obtain ⟨k, q1, q2⟩ := ih h
        exact ⟨k + 1, by simpa using q1, by simpa using q2⟩
theorem repOuts_get {w' : World} : ∀ (ps : List Value) (outs : List (List R)) (ocs : List (List Value)), RepOuts w' ps outs ocs → ocs.length = outs.length ∧ outs.length = ps.length ∧ (∀ (j : Nat) (vs : List Value), ocs[j]? = some vs → ∃ rs, outs[j]? = some rs ∧ vs.length = rs.length) ∧
    ∀ (j : Nat) (p : Value), ps[j]? = some p → ∃ (b : Nat) (us : Array Value) (T : TypeId), p = .pointer (some ⟨b, 0, none⟩) ∧ w'.heap[b]? = some (.cells us T (0, 0)) ∧ ocs[j]? = some us.toList := by
  intro ps
  induction ps with
  | nil =>
    intro outs ocs h
    cases outs with
    | nil => cases ocs with
      | nil => exact ⟨rfl, rfl, fun j vs h => by simp at h, fun j p h => by simp at h⟩
      | cons => exact h.elim
    | cons => exact h.elim
  | cons p ps ih =>
    intro outs ocs h
    cases outs with
    | nil => exact h.elim
    | cons rs outs =>
      cases ocs with
      | nil => exact h.elim
      | cons vs ocs =>
        obtain ⟨⟨b, us, T, e1, e2, e3, e4⟩, h2⟩ := h
        obtain ⟨q1, q2, q3, q4⟩ := ih outs ocs h2
        refine ⟨by simp [q1], by simp [q2], fun j vs' hj => ?_, fun j p' hj => ?_⟩
        · cases j with
          | zero => simp at hj; subst hj; exact ⟨rs, rfl, e4⟩
          | succ j => simpa using q3 j vs' (by simpa using hj)
        · cases j with
          | zero => simp at hj; subst hj; exact ⟨b, us, T, e1, e2, by simp [e3]⟩
          | succ j => simpa using q4 j p' (by simpa using hj)
theorem boxesR_get {w' : World} {s' : AS} {gv' : GV} (s1 : AS) : ∀ (outs : List (List R)) (ocs : List (List Value)) (base : Nat), RepAs B w' s' gv' (s1.cellsR base outs.flatten) ocs.flatten → ocs.length = outs.length → (∀ (j : Nat) (vs : List Value), ocs[j]? = some vs → ∃ rs, outs[j]? = some rs ∧ vs.length = rs.length) →
    ∀ (j : Nat) (c : List A) (vs : List Value), (s1.boxesR base outs)[j]? = some c → ocs[j]? = some vs → RepAs B w' s' gv' c vs := by
  intro outs
  induction outs with
  | nil => intro ocs base h hl hn j c vs hc; simp [AS.boxesR] at hc
  | cons rs outs ih =>
    intro ocs base h hl hn j c vs hc hv
    cases ocs with
    | nil => simp at hl
    | cons us ocs =>
      simp only [List.flatten_cons, cellsR_append] at h
      have hlen : us.length = rs.length := by
        obtain ⟨rs', e1, e2⟩ := hn 0 us rfl
        simp at e1; subst e1; exact e2
      obtain ⟨g1, g2⟩ := h.split rfl (by rw [cellsR_length, hlen])
      cases j with
      | zero => simp [AS.boxesR] at hc hv; subst hc hv; exact g1
      | succ j => exact ih ocs (base + rs.length) g2 (by simpa using hl) (fun j vs hj => by simpa using hn (j + 1) vs (by simpa using hj)) j c vs (by simpa [AS.boxesR] using hc) (by simpa using hv)
theorem outs_len : ∀ (outs : List (List R)) (ocs : List (List Value)), ocs.length = outs.length → (∀ (j : Nat) (vs : List Value), ocs[j]? = some vs → ∃ rs, outs[j]? = some rs ∧ vs.length = rs.length) → ocs.flatten.length = outs.flatten.length := by
  intro outs
  induction outs with
  | nil => intro ocs h _; have : ocs = [] := List.eq_nil_of_length_eq_zero h; subst this; rfl
  | cons rs outs ih =>
    intro ocs h h2
    cases ocs with
    | nil => simp at h
    | cons us ocs =>
      obtain ⟨rs', e1, e2⟩ := h2 0 us rfl
      simp at e1; subst e1
      simp only [List.flatten_cons, List.length_append, e2]
      rw [ih ocs (by simpa using h) (fun j vs hj => by simpa using h2 (j + 1) vs (by simpa using hj))]
theorem opok_callG [hI : InvC P B w0] (hd : ∀ x, o.dst = some x → x < nt) (fo : Operand) (args : Array Operand) (ts : Array TypeId) (ho : o.op = .call ⟨.value fo, args, ts⟩) (fa : A) (hfa : s.ev fo = .one fa) (f : FuncId) (caps : List C) (hc : s.cle fa = some (f, caps))
    (fs : List GForm) (ga : List GArg) (hga : s.rdGs (args.toList.map s.ev) fs = some ga) (res : List RV) (outs : List (List R)) (hspec : SpecG P f (ga ++ caps.map fun c => .val (.one (.c c))) res outs)
    (hnd : (s.givGs (args.toList.map s.ev) fs).Nodup) (l : List (Nat × Nat)) (hle : l = s.lentGs (args.toList.map s.ev) fs ++ s.lnF fa) (hdis : ∀ p ∈ l, p ∉ s.givGs (args.toList.map s.ev) fs) (kl : List (Nat × Nat))
    (hkl : kl = l ∨ (kl = [] ∧ ∀ r ∈ res.flatMap RV.cells ++ outs.flatten, r.flat)) (base : Nat)
    (hk : K ((s.callG kl (s.givGs (args.toList.map s.ev) fs) (mutGs (args.toList.map s.ev) fs) base res outs).put o.dst (packAV ((s.frzs kl).avR base res)))) : OpOK B P nt w0 o s K := by
  rw [← callee_cle] at hc
  rw [← lentF_ln] at hle
  intro a w ⟨gv, hs, hK⟩ Q
  generalize hG : s.givGs (args.toList.map s.ev) fs = G at *
  generalize hM : mutGs (args.toList.map s.ev) fs = ms at *
  have hfv := hs.ev fo
  rw [hfa] at hfv
  generalize hev : a.eval fo = fv at hfv
  cases hfv with | one hfv =>
  obtain ⟨cvs, rfl, hcaps⟩ := hs.callee l hfv hc (fun p hp => by rw [hle]; exact List.mem_append_right _ hp)
  obtain ⟨gs, hga', hblks, how, hmp, hmut⟩ := hs.rdGs_ok l _ fs ga (args.toList.map a.eval) hga (by simp) (fun m hm => by
      have hm' : m < args.toList.length := by simpa using hm
      rw [getD_map s.ev _ _ (.const Go.undef) _ hm', getD_map a.eval _ _ (.const Go.undef) _ hm']
      exact hs.ev _) (fun p hp => by rw [hle]; exact List.mem_append_left _ hp)
  rw [hG] at hblks how hmut
  rw [hM] at hmp hmut
  -- the captured values
  have hall : RepGA w (lentOk B s gv l) (ga ++ caps.map fun c => .val (.one (.c c))) (args.toList.map a.eval ++ cvs.toList) gs ∧ mutPtrs (ga ++ caps.map fun c => .val (.one (.c c))) (args.toList.map a.eval ++ cvs.toList) = ms.map (fun p => gv p.1 p.2) := by
    have hcap : ∀ (caps : List C) (vs : List Value), RepDVs w (lentOk B s gv l) (caps.map .one) vs → RepGA w (lentOk B s gv l) (caps.map fun c => .val (.one (.c c))) vs [] ∧ mutPtrs (caps.map fun c => .val (.one (.c c))) vs = [] := by
      intro caps
      induction caps with
      | nil => intro vs h; have : vs = [] := List.eq_nil_of_length_eq_zero h.1; subst this; exact ⟨rfl, rfl⟩
      | cons c caps ih =>
        intro vs h
        cases vs with
        | nil => have := h.1; simp at this
        | cons v vs =>
          obtain ⟨q1, q2⟩ := ih vs ⟨by simpa using h.1, fun m hm => by simpa using h.2 (m + 1) (by simpa using hm)⟩
          exact ⟨⟨[], [], rfl, ⟨h.2 0 (by simp), rfl⟩, q1⟩, q2⟩
    obtain ⟨c1, c2⟩ := hcap caps cvs.toList hcaps
    have app : ∀ (ga : List GArg) (vs gs : List Value), RepGA w (lentOk B s gv l) ga vs gs → RepGA w (lentOk B s gv l) (ga ++ caps.map fun c => .val (.one (.c c))) (vs ++ cvs.toList) gs ∧ mutPtrs (ga ++ caps.map fun c => .val (.one (.c c))) (vs ++ cvs.toList) = mutPtrs ga vs := by
      intro ga
      induction ga with
      | nil => intro vs gs h; cases vs with
        | nil => obtain rfl := h; exact ⟨c1, c2⟩
        | cons => exact h.elim
      | cons x ga ih =>
        intro vs gs h
        cases vs with
        | nil =>
          match x with
          | .val (.one r) => exact h.elim
          | .val (.agg rs) => exact h.elim
          | .lend rs => exact h.elim
        | cons v vs =>
          match x with
          | .val (.one r) => obtain ⟨g1, g2, rfl, h1, h2⟩ := h; obtain ⟨q1, q2⟩ := ih vs g2 h2; exact ⟨⟨g1, g2, rfl, h1, q1⟩, q2⟩
          | .val (.agg rs) => obtain ⟨us, g1, g2, rfl, rfl, h1, h2⟩ := h; obtain ⟨q1, q2⟩ := ih vs g2 h2; exact ⟨⟨us, g1, g2, rfl, rfl, h1, q1⟩, q2⟩
          | .lend rs => obtain ⟨b, us, T, g1, g2, rfl, hT, rfl, h1, h2⟩ := h; obtain ⟨q1, q2⟩ := ih vs g2 h2; exact ⟨⟨b, us, T, g1, g2, rfl, hT, rfl, h1, q1⟩, by simp [mutPtrs, q2]⟩
    obtain ⟨q1, q2⟩ := app ga _ gs hga'
    exact ⟨q1, q2.trans hmp⟩
  obtain ⟨hargs, hmp2⟩ := hall
  -- blocks handed over
  have hmine : ∀ b, mineOf gs b → ∃ p ∈ G, blkOf (gv p.1 p.2) = some b := by
    rintro b ⟨g, hg, hb⟩
    have : b ∈ gs.filterMap blkOf := List.mem_filterMap.2 ⟨g, hg, hb⟩
    rw [hblks] at this
    obtain ⟨p, hp, e⟩ := List.mem_filterMap.1 this
    exact ⟨p, hp, e⟩
  have hmine' : ∀ p ∈ G, ∀ b, blkOf (gv p.1 p.2) = some b → mineOf gs b := by
    intro p hp b hb
    have : b ∈ blks gv G := List.mem_filterMap.2 ⟨p, hp, hb⟩
    rw [← hblks] at this
    obtain ⟨g, hg, e⟩ := List.mem_filterMap.1 this
    exact ⟨g, hg, e⟩
  have hndb : (gs.filterMap blkOf).Nodup := by
    rw [hblks]
    clear hblks hmine hmine' hdis hmut hk hG
    induction G with
    | nil => exact List.nodup_nil
    | cons p G ih =>
      obtain ⟨h1, h2⟩ := List.nodup_cons.1 hnd
      have ih := ih h2 (fun q hq => how q (by simp [hq]))
      simp only [blks, List.filterMap_cons]
      split
      · exact ih
      · rename_i b hb
        refine List.nodup_cons.2 ⟨fun hm => ?_, ih⟩
        obtain ⟨q, hq, e⟩ := List.mem_filterMap.1 hm
        obtain ⟨e1, e2⟩ := hs.inj p.1 p.2 q.1 q.2 b (how p (by simp)) (how q (by simp [hq])) hb e
        exact h1 (by have : p = q := Prod.ext e1 e2; rw [this]; exact hq)
  have hdisb : ∀ b, mineOf gs b → ¬ lentOk B s gv l b := by
    intro b hb ⟨_, h2⟩
    obtain ⟨p, hp, e⟩ := hmine b hb
    exact h2 p.1 p.2 (how p hp) (fun h => hdis p h hp) e
  obtain ⟨⟨fn, hfn, hbody, hname⟩, hcall⟩ := hspec
  have hcalls := hcall w (lentOk B s gv l) _ gs hargs hndb hdisb (hI.inv.keep hK.size (fun b hb h => lentOk_of (hK.ok b hb h)) hK.heap)
  have hrun : (execOp a.eval o).run P w = .ok (.enter f (args.toList.map a.eval ++ cvs.toList).toArray) w := by
    have : (#[] ++ args.map a.eval ++ cvs) = (args.toList.map a.eval ++ cvs.toList).toArray := by apply Array.ext'; simp
    simp [execOp, ho, resolve, hev, Deferred.ofValue, invoke, run_call hfn hbody hname]
  unfold Oper.wp
  rw [hrun]
  refine Calls.mono hcalls ?_
  rintro e w' ⟨vs, cs, ocs, rfl, hbel, hfits, houts, hlen, hrep, hinj⟩
  show ∃ s', K s' ∧ Sim B nt w0 s' (a.put o.dst (packRes vs)) w'
  rw [hmp2] at houts hrep
  obtain ⟨ho1, ho2, ho3, ho4⟩ := repOuts_get _ outs ocs houts
  obtain ⟨hs1, hk1⟩ := hs.frzs kl
  generalize hrs : res.flatMap RV.cells ++ outs.flatten = rs at *
  generalize hcv : cs ++ ocs.flatten = cv at *
  let s1 := s.frzs kl
  have hs1G : ∀ p ∈ G, s1.H p.1 p.2 = s.H p.1 p.2 := by
    intro p hp
    show (s.frzs kl).H p.1 p.2 = _
    rw [frzs_H, if_neg]
    intro h
    rcases hkl with rfl | ⟨rfl, _⟩
    · exact hdis p h hp
    · simp at h
  have hliveG : ∀ p ∈ G, ∀ b, blkOf (gv p.1 p.2) = some b → w0.fr b ∧ b < w.heap.size := by
    intro p hp b hb
    obtain ⟨bl, e, ho⟩ := (how p hp).ex
    exact (hs.live p.1 p.2 bl e).blk ho b hb
  have hcslen : cs.length = (res.flatMap RV.cells).length := by
    have : ocs.flatten.length = outs.flatten.length := outs_len outs ocs ho1 ho3
    have h2 := hlen
    rw [← hrs, ← hcv] at h2
    simp at h2
    have h3 : ocs.flatten.length = (List.map List.length ocs).sum := List.length_flatten
    have h4 : outs.flatten.length = (List.map List.length outs).sum := List.length_flatten
    simp only [List.length_flatMap] at h2 ⊢
    omega
  let bx := s1.boxesR (base + (res.flatMap RV.cells).length) outs
  let F := newOf base rs cv
  let M : Nat → Nat → Option (Blk × Value) := fun i v => match findBox ms bx i v with
    | some c => some (.box c, gv i v)
    | none => if v = s1.N i then F i else none
  let N' : Nat → Nat := fun i => if (F i).isSome then s1.N i + 1 else s1.N i
  have hFown : ∀ i blk g, F i = some (blk, g) → ∃ m E sz xs, m < rs.length ∧ i = base + m ∧ rs.getD m (.c .junk) = .own E sz xs ∧ blk = .arr E sz xs ∧ g = cv.getD m Go.undef := by
    intro i blk g hF
    simp only [F, newOf] at hF
    split at hF
    · rename_i hi
      split at hF
      · rename_i E sz xs he
        cases hF
        exact ⟨i - base, E, sz, xs, by omega, by omega, he, rfl, rfl⟩
      · cases hF
    · cases hF
  have hownb : ∀ m, m < rs.length → ∀ E sz xs, rs.getD m (.c .junk) = .own E sz xs → ∀ b, blkOf (cv.getD m Go.undef) = some b → ownOf (rs.getD m (.c .junk)) (cv.getD m Go.undef) = some b ∧ (w.heap.size ≤ b ∨ mineOf gs b) ∧ ∀ p ∈ ms, blkOf (gv p.1 p.2) ≠ some b := by
    intro m hm E sz xs he b hb
    have := hrep m hm
    rw [he] at this ⊢
    obtain ⟨vals, _, hrow, hfr, _⟩ := this
    have h1 := hfr b (own_blk hrow hb).1
    exact ⟨(own_blk hrow hb).1, h1.1, fun p hp => h1.2 _ (List.mem_map.2 ⟨p, hp, rfl⟩)⟩
  have hMc : ∀ i v blk g, M i v = some (blk, g) → (∃ (k : Nat) (c : List A), ms[k]? = some (i, v) ∧ bx[k]? = some c ∧ blk = .box c ∧ g = gv i v ∧ (i, v) ∈ ms) ∨ (v = s1.N i ∧ F i = some (blk, g)) := by
    intro i v blk g h
    simp only [M] at h
    split at h
    · rename_i c hc
      cases h
      obtain ⟨k, q1, q2⟩ := findBox_some hc
      exact .inl ⟨k, c, q1, q2, rfl, rfl, List.mem_of_getElem? q1⟩
    · split at h
      · rename_i e; exact .inr ⟨e, h⟩
      · cases h
  have hokmono : ∀ (s' : AS) (gv' : GV), (∀ b, B b → (∀ j u, Ow (s1.H j u) → (j, u) ∉ G → blkOf (gv j u) ≠ some b) → (∀ i v blk g, M i v = some (blk, g) → blkOf g ≠ some b) → okb B s' gv' b) → kl = l →
      ∀ b, ((lentOk B s gv l b ∨ ((w.heap.size ≤ b ∨ mineOf gs b) ∧ ∀ p ∈ ms.map (fun p => gv p.1 p.2), blkOf p ≠ some b)) ∧ ∀ j, j < rs.length → ownOf (rs.getD j (.c .junk)) (cv.getD j Go.undef) ≠ some b) → okb B s' gv' b := by
    intro s' gv' h hkl b ⟨h1, h2⟩
    refine h b ?_ (fun j u hj hm hb => ?_) (fun i v blk g hM' hb => ?_)
    · rcases h1 with h1 | ⟨h1 | h1, _⟩
      · exact h1.1
      · exact hs.above b (.inl (Nat.le_trans hs.below.size h1))
      · obtain ⟨p, hp, e⟩ := hmine b h1
        exact hs.above b (hliveG p hp b e).1
    · have hjs : Ow (s.H j u) ∧ (j, u) ∉ l := by
        have : s1.H j u = if (j, u) ∈ kl then frzB (s.H j u) else s.H j u := frzs_H kl s j u
        rw [this, hkl] at hj
        by_cases hm : (j, u) ∈ l
        · rw [if_pos hm] at hj; exact absurd hj (frzB_ow _)
        · rw [if_neg hm] at hj; exact ⟨hj, hm⟩
      rcases h1 with h1 | ⟨h1 | h1, _⟩
      · exact h1.2 j u hjs.1 hjs.2 hb
      · obtain ⟨bl, e, ho⟩ := hjs.1.ex
        have := ((hs.live j u bl e).blk ho b hb).2
        omega
      · obtain ⟨p, hp, e⟩ := hmine b h1
        obtain ⟨e1, e2⟩ := hs.inj j u p.1 p.2 b hjs.1 (how p hp) hb e
        exact hm (by rw [e1, e2]; exact hp)
    · rcases hMc i v blk g hM' with ⟨k, c, _, _, rfl, rfl, hmem⟩ | ⟨_, hF⟩
      · rcases h1 with h1 | ⟨_, h1⟩
        · exact hdisb b (hmine' _ (hmut _ hmem).1 b hb) h1
        · exact h1 _ (List.mem_map.2 ⟨_, hmem, rfl⟩) hb
      · obtain ⟨m, E, sz, xs, hm, rfl, he, rfl, rfl⟩ := hFown i blk g hF
        exact h2 m hm (hownb m hm E sz xs he b hb).1
  have hrepC : ∀ (s' : AS) (gv' : GV), (∀ b, B b → (∀ j u, Ow (s1.H j u) → (j, u) ∉ G → blkOf (gv j u) ≠ some b) → (∀ i v blk g, M i v = some (blk, g) → blkOf g ≠ some b) → okb B s' gv' b) →
      ∀ (r : R) (x : C) (v : Value), r ∈ rs → (r = .c x ∨ ∃ E sz xs, r = .own E sz xs ∧ ∃ y ∈ xs, x ∈ y) →
        RepC w' (fun b => (lentOk B s gv l b ∨ ((w.heap.size ≤ b ∨ mineOf gs b) ∧ ∀ p ∈ ms.map (fun p => gv p.1 p.2), blkOf p ≠ some b)) ∧ ∀ j, j < rs.length → ownOf (rs.getD j (.c .junk)) (cv.getD j Go.undef) ≠ some b) x v → RepC w' (okb B s' gv') x v := by
    intro s' gv' h r x v hr hrx hx
    rcases hkl with hkl | ⟨hkl, hflat⟩
    · exact hx.mono (fun b _ hb => hokmono s' gv' h hkl b hb) (Nat.le_refl _) (fun _ _ _ => rfl)
    · have hfl := hflat r hr
      have hxf : x.flat = true ∧ x ≠ .sl [] := by
        rcases hrx with rfl | ⟨E, sz, xs, rfl, y, hy, hxy⟩
        · exact hfl
        · exact hfl y hy x hxy
      rcases hx.ofFlat (ok' := okb B s' gv') hxf.1 (fun _ _ => .inr trivial) with e | e
      · exact absurd e hxf.2
      · exact e
  have hN : ∀ i, s1.N i ≤ N' i := fun i => by simp only [N']; split <;> omega
  have hcellsAll : ∀ (s' : AS) (gv' : GV), (∀ b, B b → (∀ j u, Ow (s1.H j u) → (j, u) ∉ G → blkOf (gv j u) ≠ some b) → (∀ i v blk g, M i v = some (blk, g) → blkOf g ≠ some b) → okb B s' gv' b) →
      (∀ i v blk g, M i v = some (blk, g) → gv' i v = g) → s'.N = N' → RepAs B w' s' gv' (s1.cellsR base rs) cv := by
    intro s' gv' hok hgv hN'
    refine cellsR_ok (ok := fun _ => True) s1 rs base cv hlen (fun m hm x hx => ?_) (fun m hm E sz xs hx => ?_)
    · have hr := hrep m hm
      have hmem : rs.getD m (.c .junk) ∈ rs := getD_mem _ _ _ hm
      rw [hx] at hr
      exact hrepC s' gv' hok _ x _ hmem (.inl hx) hr
    · have hF : F (base + m) = some (.arr E sz xs, cv.getD m Go.undef) := by
        simp only [F, newOf]
        rw [if_pos (by omega), Nat.add_sub_cancel_left, hx]
      have hnb : findBox ms bx (base + m) (s1.N (base + m)) = none := by
        cases hfb : findBox ms bx (base + m) (s1.N (base + m)) with
        | none => rfl
        | some c =>
          obtain ⟨k, q1, _⟩ := findBox_some hfb
          have hmem := List.mem_of_getElem? q1
          have h1 := hs1.ver _ _ (by rw [hs1G _ (hmut _ hmem).1]; exact (how _ (hmut _ hmem).1).ne)
          exact absurd h1 (Nat.lt_irrefl _)
      have hMv : M (base + m) (s1.N (base + m)) = some (.arr E sz xs, cv.getD m Go.undef) := by simp only [M, hnb, if_true, hF]
      exact ⟨by rw [hN']; simp [N', hF], hgv _ _ _ _ hMv⟩
  obtain ⟨gv', hs', hk', hgv, hok'⟩ := hs1.renewM (w' := w') G (fun p hp => by rw [hs1G p hp]; exact how p hp) M N'
    (fun i v blk g h => by
      rcases hMc i v blk g h with ⟨k, c, _, _, rfl, rfl, hmem⟩ | ⟨rfl, hF⟩
      · exact .inr ⟨(hmut _ hmem).1, rfl⟩
      · exact .inl ⟨Nat.le_refl _, by simp [N', hF]⟩) hN hbel.os hbel.tape hbel.output hbel.size
    (fun b hlt hb => hbel.block b hlt (fun hm => by obtain ⟨p, hp, e⟩ := hmine b hm; exact hb p hp e))
    (fun i v blk g h b hb => by
      rcases hMc i v blk g h with ⟨k, c, _, _, rfl, rfl, hmem⟩ | ⟨rfl, hF⟩
      · exact .inr ⟨_, (hmut _ hmem).1, hb⟩
      · obtain ⟨m, E, sz, xs, hm, rfl, he, rfl, rfl⟩ := hFown i blk g hF
        rcases (hownb m hm E sz xs he b hb).2.1 with h1 | h1
        · exact .inl h1
        · exact .inr (hmine b h1))
    (fun i v i' v' blk g blk' g' b h h' hb hb' => by
      rcases hMc i v blk g h with ⟨k, c, _, _, rfl, rfl, hmem⟩ | ⟨rfl, hF⟩
      · rcases hMc i' v' blk' g' h' with ⟨k', c', _, _, rfl, rfl, hmem'⟩ | ⟨rfl, hF'⟩
        · exact hs.inj i v i' v' b (how _ (hmut _ hmem).1) (how _ (hmut _ hmem').1) hb hb'
        · obtain ⟨m, E, sz, xs, hm, rfl, he, rfl, rfl⟩ := hFown i' blk' g' hF'
          exact absurd hb ((hownb m hm E sz xs he b hb').2.2 _ hmem)
      · obtain ⟨m, E, sz, xs, hm, rfl, he, rfl, rfl⟩ := hFown i blk g hF
        rcases hMc i' v' blk' g' h' with ⟨k', c', _, _, rfl, rfl, hmem'⟩ | ⟨rfl, hF'⟩
        · exact absurd hb' ((hownb m hm E sz xs he b hb).2.2 _ hmem')
        · obtain ⟨m', E', sz', xs', hm', rfl, he', rfl, rfl⟩ := hFown i' blk' g' hF'
          have := hinj m m' b hm hm' (hownb m hm E sz xs he b hb).1 (hownb m' hm' E' sz' xs' he' b hb').1
          subst this
          exact ⟨rfl, rfl⟩)
    (fun s' gv' hse hk' hok hgv i v blk g h => by
      rcases hMc i v blk g h with ⟨k, c, hmk, hck, rfl, rfl, hmem⟩ | ⟨rfl, hF⟩
      · obtain ⟨cells, hH⟩ := (hmut _ hmem).2
        obtain ⟨b, vals, T, e1, e2, e3, e4⟩ := hs.live i v _ hH
        obtain ⟨b', us, T', f1, f2, f3⟩ := ho4 k (gv i v) (by simp [hmk])
        have hbb : b' = b := by rw [e1] at f1; simpa using f1.symm
        subst hbb
        have hcells := hcellsAll s' gv' hok hgv (by rw [hse]; rfl)
        rw [← hrs, ← hcv, cellsR_append] at hcells
        obtain ⟨_, g2⟩ := hcells.split rfl (by rw [cellsR_length, hcslen])
        exact ⟨b', us, T', f1, e2, f2, boxesR_get s1 outs ocs _ g2 ho1 ho3 k c _ hck f3⟩
      · obtain ⟨m, E, sz, xs, hm, rfl, he, rfl, rfl⟩ := hFown i blk g hF
        have hr := hrep m hm
        have hmem : rs.getD m (.c .junk) ∈ rs := getD_mem _ _ _ hm
        rw [he] at hr
        obtain ⟨vals, hsz, hrow, hfr, hcs⟩ := hr
        refine ⟨vals, hsz, hrow, fun b hb => ?_, hcs.1, fun q hq => hrepC s' gv' hok _ _ _ hmem (.inr ⟨E, sz, xs, he, ?_⟩) (hcs.2 q hq)⟩
        · rcases (hownb m hm E sz xs he b hb).2.1 with h1 | h1
          · exact .inl (Nat.le_trans hs.below.size h1)
          · obtain ⟨p, hp, e⟩ := hmine b h1
            exact (hliveG p hp b e).1
        · have := getD_mem xs.flatten C.junk q hq
          obtain ⟨y, hy, hy2⟩ := List.mem_flatten.1 this
          exact ⟨y, hy, hy2⟩)
  have hstate : s.callG kl G ms base res outs = s1.morph G M N' := by
    have ht : ((s.frzs kl).kills G).take base rs = ((s.frzs kl).kills G).newF F := take_eq rs cv base _
    have hkn : ∀ (l : List (Nat × Nat)) (s : AS), (s.kills l).N = s.N := by
      intro l
      induction l with
      | nil => intro s; rfl
      | cons p l ih => intro s; exact (ih (s.kill p.1 p.2)).trans rfl
    have hkt : ∀ (l : List (Nat × Nat)) (s : AS), (s.kills l).t = s.t := by
      intro l
      induction l with
      | nil => intro s; rfl
      | cons p l ih => intro s; exact (ih (s.kill p.1 p.2)).trans rfl
    unfold AS.callG
    rw [hrs, ht]
    simp only [AS.setB, AS.newF, AS.morph, AS.mk.injEq]
    refine ⟨by rw [hkt], ?_, ?_⟩
    · funext i v
      simp only [hkn, M]
      show (match findBox ms bx i v with | some c => some (Blk.box c) | none => _) = _
      cases hfb : findBox ms bx i v with
      | some c => rfl
      | none =>
        simp only
        by_cases hv : v = s1.N i
        · have hv' : v = (s.frzs kl).N i := hv
          rw [if_pos hv', if_pos hv]
          cases hF : F i with
          | some p => rfl
          | none =>
            simp only [kills_H]
            rfl
        · have hv' : ¬ v = (s.frzs kl).N i := hv
          rw [if_neg hv', if_neg hv]
          simp only [kills_H]
          rfl
    · funext i
      simp only [hkn]
      rfl
  have hcells := hcellsAll _ gv' hok' hgv rfl
  rw [← hrs, ← hcv, cellsR_append] at hcells
  obtain ⟨g1, _⟩ := hcells.split rfl (by rw [cellsR_length, hcslen])
  obtain ⟨q1, q2⟩ := avR_ok s1 res base vs cs hfits g1
  refine ⟨_, hk, gv', ?_, ?_⟩
  · rw [hstate]
    exact hs'.put o.dst hd _ _ (packAV_ok q1 q2)
  · rw [hstate]
    exact (hK.trans (hk1.trans hk')).putd _ _
end
end Go.AV
end
