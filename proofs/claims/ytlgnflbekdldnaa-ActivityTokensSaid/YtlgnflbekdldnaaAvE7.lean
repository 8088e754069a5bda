/- The walk as a computation: code, and the contract of a function. -/
import Derived.Test.YtlgnflbekdldnaaAvE6
import Derived.LoopN
set_option linter.unusedVariables false
set_option linter.unusedSimpArgs false
namespace Go.AV
open Go.RowKit

section
variable {B : Nat → Prop} {nt : Nat} {w0 : Base} {w : World} {s s' : AS} {a : Act} {gv : GV} {P : Program} {J Y : Type}

/-! ### Loops, round by round -/
def loopN (B : Nat → Prop) (nt : Nat) (w0 : Base) (P : Program) : Nat → Code → (Exit → AS → Prop) → AS → Prop
  | 0, _, _, _ => False
  | n + 1, c, Q, s => AWp B nt w0 P c (thenA (loopN B nt w0 P n c Q) Q) s

theorem thenA_mono {M M' : AS → Prop} {Q Q' : Exit → AS → Prop} (hM : ∀ s, M s → M' s) (hQ : ∀ e s, Q e s → Q' e s) : ∀ e s, thenA M Q e s → thenA M' Q' e s := by
  intro e s h
  cases e with
  | normal => exact hM s h
  | _ => exact hQ _ s h
theorem loopN_mono {c : Code} {Q Q' : Exit → AS → Prop} (hQ : ∀ e s, Q e s → Q' e s) : ∀ (n m : Nat) (s : AS), n ≤ m → loopN B nt w0 P n c Q s → loopN B nt w0 P m c Q' s := by
  intro n
  induction n with
  | zero => intro m s _ h; exact h.elim
  | succ n ih =>
    intro m s hm h
    cases m with
    | zero => omega
    | succ m => exact awp_mono h (thenA_mono (fun s h => ih m s (by omega) h) hQ)
theorem awp_loopN {c : Code} {Q : Exit → AS → Prop} {n : Nat} (h : loopN B nt w0 P n c Q s) : AWp B nt w0 P (.loop c) Q s := by
  intro a w hs
  refine wp_loop_rounds n ?_
  induction n generalizing s a w with
  | zero => exact h.elim
  | succ n ih =>
    refine wp_mono (h a w hs) ?_
    rintro e a' w' ⟨s', h1, h2⟩
    cases e with
    | normal => exact ih h1 a' w' h2
    | _ => exact ⟨s', h1, h2⟩
theorem awp_refB {c : Code} {Q : Exit → AS → Prop} (h : RefB B nt w0 s s') (h2 : AWp B nt w0 P c Q s') : AWp B nt w0 P c Q s := fun a w hs => h2 a w (h a w hs)
theorem loopN_refB {c : Code} {Q : Exit → AS → Prop} {n : Nat} (h : RefB B nt w0 s s') (h2 : loopN B nt w0 P n c Q s') : loopN B nt w0 P n c Q s := by
  cases n with
  | zero => exact h2.elim
  | succ n => exact awp_refB h h2

/-- What stands at a place, and what has to hold behind it. -/
def posA (B : Nat → Prop) (nt : Nat) (w0 : Base) (P : Program) (n : Nat) (body : Code) (Qr : Exit → AS → Prop) : List Nat → Option (Code × (Exit → AS → Prop))
  | [] => some (body, Qr)
  | i :: p => match posA B nt w0 P n body Qr p with
    | some (.seq x y, Q) => match i with
      | 0 => some (x, thenA (AWp B nt w0 P y Q) Q)
      | 1 => some (y, Q)
      | _ => none
    | some (.cond _ x y, Q) => match i with
      | 0 => some (x, Q)
      | 1 => some (y, Q)
      | _ => none
    | some (.block id x, Q) => match i with
      | 0 => some (x, inBlockA id Q)
      | _ => none
    | some (.loop x, Q) => match i with
      | 0 => some (x, thenA (loopN B nt w0 P n x Q) Q)
      | _ => none
    | _ => none

theorem posA_mono {body : Code} {Qr : Exit → AS → Prop} {n m : Nat} (hnm : n ≤ m) : ∀ (p : List Nat) (c : Code) (Q : Exit → AS → Prop), posA B nt w0 P n body Qr p = some (c, Q) → ∃ Q', posA B nt w0 P m body Qr p = some (c, Q') ∧ ∀ e s, Q e s → Q' e s := by
  intro p
  induction p with
  | nil => intro c Q h; simp only [posA, Option.some.injEq, Prod.mk.injEq] at h; obtain ⟨rfl, rfl⟩ := h; exact ⟨Qr, rfl, fun _ _ h => h⟩
  | cons i p ih =>
    intro c Q h
    simp only [posA] at h ⊢
    split at h
    · rename_i x y Q0 e
      obtain ⟨Q1, e1, h1⟩ := ih _ _ e
      rw [e1]
      simp only
      split at h
      · cases h; exact ⟨_, rfl, thenA_mono (fun s h => awp_mono h h1) h1⟩
      · cases h; exact ⟨_, rfl, h1⟩
      · cases h
    · rename_i x y Q0 e
      obtain ⟨Q1, e1, h1⟩ := ih _ _ e
      rw [e1]
      simp only
      split at h
      · cases h; exact ⟨_, rfl, h1⟩
      · cases h; exact ⟨_, rfl, h1⟩
      · cases h
    · rename_i x Q0 e
      obtain ⟨Q1, e1, h1⟩ := ih _ _ e
      rw [e1]
      simp only
      split at h
      · cases h
        refine ⟨_, rfl, fun e s h => ?_⟩
        cases e with
        | exit i => simp only [inBlockA] at h ⊢; split <;> rename_i hi <;> simp only [hi, if_true, if_false] at h <;> exact h1 _ _ h
        | _ => exact h1 _ _ h
      · cases h
    · rename_i x Q0 e
      obtain ⟨Q1, e1, h1⟩ := ih _ _ e
      rw [e1]
      simp only
      split at h
      · cases h; exact ⟨_, rfl, thenA_mono (fun s h => loopN_mono h1 n m s hnm h) h1⟩
      · cases h
    · cases h

def EntA (B : Nat → Prop) (nt : Nat) (w0 : Base) (P : Program) (n : Nat) (c : Code) (Q : Exit → AS → Prop) (s : AS) : Prop :=
  match c with
  | .loop x => loopN B nt w0 P n x Q s
  | c => AWp B nt w0 P c Q s
theorem EntA.awp {n : Nat} {c : Code} {Q : Exit → AS → Prop} (h : EntA B nt w0 P n c Q s) : AWp B nt w0 P c Q s := by
  unfold EntA at h
  split at h
  · exact awp_loopN h
  · exact h

/-- Where a way ends. -/
def KOf (L : J → Prop) (y : Y) : J ⊕ Y → Prop
  | .inl j => L j
  | .inr y' => y' = y

theorem meet_ok {cx : Cx J Y} {p : List Nat} {K : KC P J Y} {KK : J ⊕ Y → Prop} (hos : ∀ h, w0.os.N h ≤ 1) {c : Cert P J Y} {es : ES} (h : meet cx p K c es) (hr : Runs c KK) :
    (∃ j es', RefB B nt w0 es.den es' ∧ es' = (cx.snap j).es.den ∧ cx.path j = p ∧ KK (.inl j)) ∨ ∃ c' es', K c' es' ∧ Runs c' KK ∧ RefB B nt w0 es.den es'.den := by
  unfold meet at h
  split at h
  · rename_i j0 e0
    cases he0 : eqL (cx.path j0) p with
    | true =>
      rw [he0] at h
      obtain ⟨c', es', h1, h2, h3⟩ := pre_ok (B := B) (nt := nt) (w0 := w0) c es h hr
      split at h1
      · rename_i j ren
        obtain ⟨g1, g2⟩ := gd_elim h1
        exact .inl ⟨j, _, h3.trans (proj_ok g2 hos), rfl, eqL_eq g1, h2⟩
      · exact h1.elim
    | false =>
      rw [he0] at h
      exact .inr ⟨_, _, h, hr, RefB.refl⟩
  · exact .inr ⟨_, _, h, hr, RefB.refl⟩

section
variable {cx : Cx J Y} {body : Code} {Qr : Exit → AS → Prop} {n : Nat} {L : J → Prop} {y0 : Y}

theorem execC_ok (hm : P.follows .mixedOrders = true) (hos : ∀ h, w0.os.N h ≤ 1) (H : ∀ j, L j → ∀ c Q, posA B cx.nt w0 P n body Qr (cx.path j) = some (c, Q) → EntA B cx.nt w0 P n c Q (cx.snap j).es.den) :
    ∀ (c : Code) (p : List Nat) (Qc : QC P J Y) (Qa : Exit → AS → Prop) (cert : Cert P J Y) (es : ES), posA B cx.nt w0 P n body Qr p = some (c, Qa) → execC P cx c p Qc cert es → Runs cert (KOf L y0) →
      (∀ e c' es', Qc e c' es' → Runs c' (KOf L y0) → Qa e es'.den) → AWp B cx.nt w0 P c Qa es.den := by
  intro c
  induction c with
  | skip => intro p Qc Qa cert es _ h hr hq; exact awp_skip (hq _ _ _ h hr)
  | exit i => intro p Qc Qa cert es _ h hr hq; exact awp_exit (hq _ _ _ h hr)
  | ret => intro p Qc Qa cert es _ h hr hq; exact awp_ret (hq _ _ _ h hr)
  | seq x y ihx ihy =>
    intro p Qc Qa cert es hp h hr hq
    refine awp_seq (ihx (0 :: p) _ _ cert es (by simp only [posA, hp]) h hr fun e c' es' he hr' => ?_)
    cases e with
    | normal =>
      have hp1 : posA B cx.nt w0 P n body Qr (1 :: p) = some (y, Qa) := by simp only [posA, hp]
      show AWp B cx.nt w0 P y Qa es'.den
      rcases meet_ok (B := B) (nt := cx.nt) (w0 := w0) hos he hr' with ⟨j, s2, g1, rfl, g3, g4⟩ | ⟨c2, es2, g1, g2, g3⟩
      · exact awp_refB g1 (H j g4 y Qa (by rw [g3]; exact hp1)).awp
      · exact awp_refB g3 (ihy (1 :: p) Qc Qa c2 es2 hp1 g1 g2 hq)
    | _ => exact hq _ _ _ he hr'
  | cond x a b iha ihb =>
    intro p Qc Qa cert es hp h hr hq
    have h1 : asksX x (condC x (execC P cx a (0 :: p) Qc) (execC P cx b (1 :: p) Qc)) cert es := h
    have hb : ∃ c2 es2, condC x (execC P cx a (0 :: p) Qc) (execC P cx b (1 :: p) Qc) c2 es2 ∧ Runs c2 (KOf L y0) ∧ es2.den = es.den := by
      unfold asksX at h1
      cases x with
      | tmp t => exact branch_ok h1 hr
      | _ => exact ⟨_, _, h1, hr, rfl⟩
    obtain ⟨c2, es2, g1, g2, g3⟩ := hb
    rw [← g3]
    unfold condC at g1
    split at g1
    · rename_i e
      exact awp_cond true e (fun _ => iha (0 :: p) Qc Qa c2 es2 (by simp only [posA, hp]) g1 g2 hq) (fun e => (by cases e))
    · rename_i e
      exact awp_cond false e (fun e => (by cases e)) (fun _ => ihb (1 :: p) Qc Qa c2 es2 (by simp only [posA, hp]) g1 g2 hq)
    · exact g1.elim
  | block i x ih =>
    intro p Qc Qa cert es hp h hr hq
    refine awp_block (ih (0 :: p) _ _ cert es (by simp only [posA, hp]) h hr fun e c' es' he hr' => ?_)
    cases e with
    | exit j =>
      simp only [inBlockC, nbeq] at he
      simp only [inBlockA]
      by_cases hji : j = i
      · simp only [hji, decide_true, cond_true] at he
        rw [if_pos hji]
        exact hq _ _ _ he hr'
      · simp only [hji, decide_false, cond_false] at he
        rw [if_neg hji]
        exact hq _ _ _ he hr'
    | _ => exact hq _ _ _ he hr'
  | loop x ih =>
    intro p Qc Qa cert es hp h hr hq
    rcases meet_ok (B := B) (nt := cx.nt) (w0 := w0) hos h hr with ⟨j, s2, g1, rfl, g3, g4⟩ | ⟨c2, es2, g1, _⟩
    · exact awp_refB g1 (H j g4 _ Qa (by rw [g3]; exact hp)).awp
    · exact g1.elim
  | region id ops draw =>
    intro p Qc Qa cert es hp h hr hq
    obtain ⟨c1, es1, h1, h2, h3⟩ := regF_ok (B := B) (nt := cx.nt) (w0 := w0) cert es h hr
    exact awp_refB h3 (region_ok hm h1 h2 (hq .normal))
  | _ => intro p Qc Qa cert es _ h; exact h.elim

theorem posC_ok (hm : P.follows .mixedOrders = true) (hos : ∀ h, w0.os.N h ≤ 1) (H : ∀ j, L j → ∀ c Q, posA B cx.nt w0 P n body Qr (cx.path j) = some (c, Q) → EntA B cx.nt w0 P n c Q (cx.snap j).es.den)
    (htop : ∀ e c' es', topC P cx e c' es' → Runs c' (KOf L y0) → Qr e es'.den) : ∀ (p : List Nat) (c : Code) (Qc : QC P J Y), posC P cx body p = some (c, Qc) →
      ∃ Qa, posA B cx.nt w0 P n body Qr p = some (c, Qa) ∧ ∀ e c' es', Qc e c' es' → Runs c' (KOf L y0) → Qa e es'.den := by
  intro p
  induction p with
  | nil => intro c Qc h; simp only [posC, Option.some.injEq, Prod.mk.injEq] at h; obtain ⟨rfl, rfl⟩ := h; exact ⟨Qr, rfl, htop⟩
  | cons i p ih =>
    intro c Qc h
    simp only [posC] at h
    simp only [posA]
    split at h
    · rename_i x y Q0 e
      obtain ⟨Qa, e1, h1⟩ := ih _ _ e
      rw [e1]
      simp only
      split at h
      · cases h
        refine ⟨_, rfl, fun e c' es' he hr => ?_⟩
        cases e with
        | normal =>
          have hp1 : posA B cx.nt w0 P n body Qr (1 :: p) = some (y, Qa) := by simp only [posA, e1]
          show AWp B cx.nt w0 P y Qa es'.den
          rcases meet_ok (B := B) (nt := cx.nt) (w0 := w0) hos he hr with ⟨j, s2, g1, rfl, g3, g4⟩ | ⟨c2, es2, g1, g2, g3⟩
          · exact awp_refB g1 (H j g4 y Qa (by rw [g3]; exact hp1)).awp
          · exact awp_refB g3 (execC_ok hm hos H y (1 :: p) Q0 Qa c2 es2 hp1 g1 g2 h1)
        | _ => exact h1 _ _ _ he hr
      · cases h; exact ⟨_, rfl, h1⟩
      · cases h
    · rename_i x y Q0 e
      obtain ⟨Qa, e1, h1⟩ := ih _ _ e
      rw [e1]
      simp only
      split at h
      · cases h; exact ⟨_, rfl, h1⟩
      · cases h; exact ⟨_, rfl, h1⟩
      · cases h
    · rename_i id x Q0 e
      obtain ⟨Qa, e1, h1⟩ := ih _ _ e
      rw [e1]
      simp only
      split at h
      · cases h
        refine ⟨_, rfl, fun e c' es' he hr => ?_⟩
        cases e with
        | exit j =>
          simp only [inBlockC, nbeq] at he
          simp only [inBlockA]
          by_cases hji : j = id
          · simp only [hji, decide_true, cond_true] at he
            rw [if_pos hji]
            exact h1 _ _ _ he hr
          · simp only [hji, decide_false, cond_false] at he
            rw [if_neg hji]
            exact h1 _ _ _ he hr
        | _ => exact h1 _ _ _ he hr
      · cases h
    · rename_i x Q0 e
      obtain ⟨Qa, e1, h1⟩ := ih _ _ e
      rw [e1]
      simp only
      split at h
      · cases h
        refine ⟨_, rfl, fun e c' es' he hr => ?_⟩
        cases e with
        | normal =>
          show loopN B cx.nt w0 P n c Qa es'.den
          have he' : meet cx p (fun _ _ => False) c' es' := he
          rcases meet_ok (B := B) (nt := cx.nt) (w0 := w0) hos he' hr with ⟨j, s2, g1, rfl, g3, g4⟩ | ⟨c2, es2, g1, _⟩
          · exact loopN_refB g1 (H j g4 (.loop c) Qa (by rw [g3]; exact e1))
          · exact g1.elim
        | _ => exact h1 _ _ _ he hr
      · cases h
    · cases h
end

/-! ### What a system of places says -/
theorem runs_mono {K K' : J ⊕ Y → Prop} (hk : ∀ l, K l → K' l) : ∀ c : Cert P J Y, Runs c K → Runs c K' := by
  intro c
  induction c with
  | ret => exact hk _
  | jump => exact hk _
  | ite t b c d ih1 ih2 => intro h; simp only [Runs] at h ⊢; split <;> rename_i hb <;> simp only [hb, if_true, if_false] at h; exact ih1 h; exact ih2 h
  | elem _ _ _ _ ih => rintro ⟨h0, h1, h⟩; exact ⟨h0, h1, ih _ h⟩
  | idx _ _ _ _ ih => rintro ⟨h0, h1, h⟩; exact ⟨h0, h1, ih h⟩
  | eget _ _ _ _ ih => rintro ⟨h1, h⟩; exact ⟨h1, ih _ h⟩
  | eset _ _ _ _ _ ih => rintro ⟨h1, h⟩; exact ⟨h1, ih h⟩
  | byte _ _ _ ih => rintro ⟨h0, h1, h⟩; exact ⟨h0, h1, ih h⟩
  | len _ _ _ ih => exact ih
  | app _ _ _ _ _ ih => rintro ⟨h1, h⟩; exact ⟨h1, ih h⟩
  | cut _ _ _ _ _ ih => rintro ⟨h1, h⟩; exact ⟨h1, ih h⟩
  | cat _ _ _ ih => rintro ⟨h1, h⟩; exact ⟨h1, ih h⟩
  | bld _ _ _ ih => exact ih
  | mks _ _ _ ih => rintro ⟨h1, h⟩; exact ⟨h1, ih h⟩
  | unby _ _ ih => exact ih
  | shf _ _ ih => rintro ⟨h1, h⟩; exact ⟨h1, ih h⟩
  | dvd _ _ ih => rintro ⟨h1, h⟩; exact ⟨h1, ih h⟩
  | mput _ _ _ _ _ _ ih => exact ih
  | mget _ _ _ _ _ _ ih => rintro ⟨h1, h⟩; exact ⟨h1, ih h⟩
  | nilt _ _ _ ih => intro h b hb; exact ih b (h b hb)
  | call _ _ _ ih => rintro ⟨y, h1, h⟩; exact ⟨y, h1, ih y h⟩
  | adoptT _ _ _ _ ih => exact ih
  | adoptB _ _ _ _ _ _ ih => exact ih
  | frz _ _ _ ih => exact ih
  | frzo _ _ _ _ ih => exact ih

theorem runs_ex {K : Nat → J ⊕ Y → Prop} (hk : ∀ n m l, n ≤ m → K n l → K m l) : ∀ c : Cert P J Y, Runs c (fun l => ∃ n, K n l) → ∃ n, Runs c (K n) := by
  intro c
  induction c with
  | ret => exact id
  | jump => exact id
  | ite t b c d ih1 ih2 =>
    intro h
    simp only [Runs] at h ⊢
    by_cases hb : b = true
    · simp only [hb, if_true] at h ⊢; exact ih1 h
    · simp only [hb, if_false] at h ⊢; exact ih2 h
  | elem _ _ _ _ ih => rintro ⟨h0, h1, h⟩; obtain ⟨n, h⟩ := ih _ h; exact ⟨n, h0, h1, h⟩
  | idx _ _ _ _ ih => rintro ⟨h0, h1, h⟩; obtain ⟨n, h⟩ := ih h; exact ⟨n, h0, h1, h⟩
  | eget _ _ _ _ ih => rintro ⟨h1, h⟩; obtain ⟨n, h⟩ := ih _ h; exact ⟨n, h1, h⟩
  | eset _ _ _ _ _ ih => rintro ⟨h1, h⟩; obtain ⟨n, h⟩ := ih h; exact ⟨n, h1, h⟩
  | byte _ _ _ ih => rintro ⟨h0, h1, h⟩; obtain ⟨n, h⟩ := ih h; exact ⟨n, h0, h1, h⟩
  | len _ _ _ ih => exact ih
  | app _ _ _ _ _ ih => rintro ⟨h1, h⟩; obtain ⟨n, h⟩ := ih h; exact ⟨n, h1, h⟩
  | cut _ _ _ _ _ ih => rintro ⟨h1, h⟩; obtain ⟨n, h⟩ := ih h; exact ⟨n, h1, h⟩
  | cat _ _ _ ih => rintro ⟨h1, h⟩; obtain ⟨n, h⟩ := ih h; exact ⟨n, h1, h⟩
  | bld _ _ _ ih => exact ih
  | mks _ _ _ ih => rintro ⟨h1, h⟩; obtain ⟨n, h⟩ := ih h; exact ⟨n, h1, h⟩
  | unby _ _ ih => exact ih
  | shf _ _ ih => rintro ⟨h1, h⟩; obtain ⟨n, h⟩ := ih h; exact ⟨n, h1, h⟩
  | dvd _ _ ih => rintro ⟨h1, h⟩; obtain ⟨n, h⟩ := ih h; exact ⟨n, h1, h⟩
  | mput _ _ _ _ _ _ ih => exact ih
  | mget _ _ _ _ _ _ ih => rintro ⟨h1, h⟩; obtain ⟨n, h⟩ := ih h; exact ⟨n, h1, h⟩
  | nilt _ xs _ ih =>
    intro h
    by_cases hx : xs ≠ []
    · obtain ⟨n, h⟩ := ih false (h false (fun _ => rfl))
      exact ⟨n, fun b hb => by rw [hb hx]; exact h⟩
    · obtain ⟨n, h1⟩ := ih false (h false (fun _ => rfl))
      obtain ⟨m, h2⟩ := ih true (h true (fun hh => absurd hh hx))
      refine ⟨max n m, fun b _ => ?_⟩
      cases b with
      | false => exact runs_mono (fun l hl => hk n _ l (by omega) hl) _ h1
      | true => exact runs_mono (fun l hl => hk m _ l (by omega) hl) _ h2
  | call _ _ _ ih => rintro ⟨y, h1, h⟩; obtain ⟨n, h⟩ := ih y h; exact ⟨n, y, h1, h⟩
  | adoptT _ _ _ _ ih => exact ih
  | adoptB _ _ _ _ _ _ ih => exact ih
  | frz _ _ _ ih => exact ih
  | frzo _ _ _ _ ih => exact ih

def EvN (cert : J → Cert P J Y) : Nat → J → Y → Prop
  | 0, _, _ => False
  | n + 1, j, y => Runs (cert j) (KOf (fun j => EvN cert n j y) y)
/-- From the place j the way ends with y. -/
def Ev (cert : J → Cert P J Y) (j : J) (y : Y) : Prop := ∃ n, EvN cert n j y

theorem evN_mono {cert : J → Cert P J Y} {y : Y} : ∀ (n m : Nat) (j : J), n ≤ m → EvN cert n j y → EvN cert m j y := by
  intro n
  induction n with
  | zero => intro m j _ h; exact h.elim
  | succ n ih =>
    intro m j hm h
    cases m with
    | zero => omega
    | succ m =>
      refine runs_mono (fun l hl => ?_) _ h
      cases l with
      | inl j' => exact ih m j' (by omega) hl
      | inr y' => exact hl
theorem evEx {cert : J → Cert P J Y} {y : Y} {c : Cert P J Y} (h : Runs c (KOf (fun j => Ev cert j y) y)) : ∃ n, Runs c (KOf (fun j => EvN cert n j y) y) := by
  refine runs_ex (K := fun n => KOf (fun j => EvN cert n j y) y) (fun n m l hnm hl => ?_) c (runs_mono (fun l hl => ?_) c h)
  · cases l with
    | inl j => exact evN_mono n m j hnm hl
    | inr y' => exact hl
  · cases l with
    | inl j => exact hl
    | inr y' => exact ⟨0, hl⟩
theorem Ev.intro {cert : J → Cert P J Y} {j : J} {y : Y} (h : Runs (cert j) (KOf (fun j => Ev cert j y) y)) : Ev cert j y := by
  obtain ⟨n, h⟩ := evEx h
  exact ⟨n + 1, h⟩

/-! ### The contract -/
def esT (i : Nat) : List AV → List (Nat × AV)
  | [] => []
  | v :: vs => (i, v) :: esT (i + 1) vs
def esH (i : Nat) : List Blk → List ((Nat × Nat) × Option Blk)
  | [] => []
  | b :: bs => ((i, 0), some b) :: esH (i + 1) bs
/-- The state at a function's entry. -/
def ES.init (args : List GArg) : ES := ⟨esT 0 (avsA 0 args), esH 0 (blksA 0 args), [], 1⟩

theorem lkT_esT : ∀ (l : List AV) (i k : Nat), i ≤ k → lkT (esT i l) k = l.getD (k - i) .undef := by
  intro l
  induction l with
  | nil => intro i k _; simp [esT, lkT]
  | cons v l ih =>
    intro i k h
    simp only [esT, lkT, nbeq]
    by_cases e : k = i
    · subst e; simp
    · simp only [e, decide_false, cond_false]
      rw [ih (i + 1) k (by omega), show k - i = (k - (i + 1)) + 1 by omega, List.getD_cons_succ]
theorem lkH_esH : ∀ (l : List Blk) (i k v : Nat), i ≤ k → lkH (esH i l) k v = if v = 0 then l[k - i]? else none := by
  intro l
  induction l with
  | nil => intro i k v _; simp [esH, lkH]
  | cons b l ih =>
    intro i k v h
    simp only [esH, lkH, nbeq]
    by_cases e : k = i
    · subst e
      by_cases e2 : v = 0
      · subst e2; simp
      · simp only [e2, decide_false, Bool.and_false, cond_false, if_false]
        have : ∀ (l : List Blk) (i : Nat), lkH (esH i l) k v = none := by
          intro l
          induction l with
          | nil => intro i; rfl
          | cons b l ih => intro i; simp only [esH, lkH, nbeq, e2, decide_false, Bool.and_false, cond_false]; exact ih _
        exact this l _
    · simp only [e, decide_false, Bool.false_and, cond_false]
      rw [ih (i + 1) k v (by omega), show k - i = (k - (i + 1)) + 1 by omega, List.getElem?_cons_succ]
theorem den_init (args : List GArg) : (ES.init args).den = AS.initG args := by
  simp only [ES.init, ES.den, AS.initG, AS.mk.injEq]
  refine ⟨?_, ?_, ?_⟩
  · funext i; rw [lkT_esT _ 0 i (by omega)]; rfl
  · funext h v; rw [lkH_esH _ 0 h v (by omega)]; rfl
  · funext i; rfl

theorem outRs_ok {s : AS} : ∀ {xs : List A} {rs : List R}, s.outRs xs rs = some rs → retCs s xs rs := by
  have one : ∀ (x : A) (r r' : R), s.outR x r = some r' → retC s x r' := by
    intro x r r' h
    unfold AS.outR at h
    split at h
    · cases h; rfl
    · cases h; rfl
    · cases h; rfl
    · rename_i i v E sz ys
      split at h
      · rename_i E' sz' xs' hH
        obtain ⟨h1, h2⟩ := bo_some h
        cases h2
        simp only [Bool.and_eq_true] at h1
        have e1 := Nat.eq_of_beq_eq_true h1.1
        have e2 := Nat.eq_of_beq_eq_true h1.2
        subst e1 e2
        exact hH
      · cases h
    · split at h
      · rename_i hH; cases h; exact .inl ⟨_, _, _, hH, rfl⟩
      · rename_i hH; cases h; exact .inr ⟨_, hH, rfl⟩
      · cases h
    · cases h
  have key : ∀ (xs : List A) (rs rs' : List R), s.outRs xs rs = some rs' → retCs s xs rs' := by
    intro xs
    induction xs with
    | nil => intro rs rs' h; cases rs with
      | nil => simp [AS.outRs] at h; subst h; trivial
      | cons => simp [AS.outRs] at h
    | cons x xs ih =>
      intro rs rs' h
      cases rs with
      | nil => simp [AS.outRs] at h
      | cons r rs =>
        simp only [AS.outRs] at h
        split at h
        · rename_i y ys h1 h2
          cases h
          exact ⟨one x r y h1, ih rs ys h2⟩
        · cases h
  intro xs rs h
  exact key xs rs rs h

theorem cellsSmall_ok : ∀ {rvs : List ResultVar}, cellsSmall P rvs = true → ∀ p t, ResultVar.cell p t ∈ rvs → ∀ ti, tiOf P t = some ti → ti.agg = false → ti.size = 1 := by
  intro rvs
  induction rvs with
  | nil => intro _ p t h; simp at h
  | cons r rvs ih =>
    intro h p t hm ti ht ha
    cases r with
    | tmp x =>
      rcases List.mem_cons.1 hm with e | hm
      · cases e
      · exact ih h p t hm ti ht ha
    | cell q u =>
      simp only [cellsSmall, Bool.and_eq_true] at h
      rcases List.mem_cons.1 hm with e | hm
      · cases e
        rw [ht] at h
        simp only [Bool.or_eq_true] at h
        rcases h.1 with h | h
        · rw [ha] at h; cases h
        · exact Nat.eq_of_beq_eq_true h
      · exact ih h.2 p t hm ti ht ha

theorem lensEq_ok : ∀ {xs : List (List A)} {rs : List (List R)}, lensEq xs rs = true → xs.map List.length = rs.map List.length := by
  intro xs
  induction xs with
  | nil => intro rs h; cases rs with
    | nil => rfl
    | cons => cases h
  | cons x xs ih => intro rs h; cases rs with
    | nil => cases h
    | cons r rs =>
      simp only [lensEq, Bool.and_eq_true] at h
      simp [Nat.eq_of_beq_eq_true h.1, ih h.2]

/-- THE CONTRACT of a function, out of its walk. -/
theorem sys_ok {f : FuncId} {fn : Func} {body : Code} {cx : Cx J Y} {cert : J → Cert P J Y} (hm : P.follows .mixedOrders = true) (hf : P.funcs[f]? = some fn) (hb : fn.body = some body) (hname : (fn.name == "runtime.NumGoroutine") = false)
    (hnt : cx.nt = fn.ntmps) (hrv : cx.rvs = fn.results.toList) (args : List GArg) (hn : args.length ≤ fn.ntmps) (hmh : cx.mh = mutH 0 args)
    (c0 : Cert P J Y) (h0 : execC P cx body [] (topC P cx) c0 (ES.init args)) (hj : ∀ j, chkAt P cx body (cx.path j) (cert j) (cx.snap j).es) (y : Y) (hr : Runs c0 (KOf (fun j => Ev cert j y) y)) : SpecG P f args (cx.res y) (cx.outs y) := by
  refine specG_of_body hf hb hname hn fun B w0 hos => ?_
  rw [← hnt, ← hrv, ← hmh]
  have hos' : ∀ h, w0.os.N h ≤ 1 := fun h => by rw [hos]; exact Nat.le_refl _
  let Q0 : Exit → AS → Prop := fun e s => (e = .normal ∨ e = .ret) ∧ retG P s cx.rvs (cx.res y) cx.mh (cx.outs y)
  let Qr : Exit → AS → Prop := fun e s => ∃ s', RefB B cx.nt w0 s s' ∧ Q0 e s'
  suffices hmain : AWp B cx.nt w0 P body Qr (AS.initG args) by
    intro a w hs
    refine wp_mono (hmain a w hs) ?_
    rintro e a' w' ⟨s', ⟨s2, h1, h2⟩, h3⟩
    exact ⟨s2, h2, h1 a' w' h3⟩
  have htop : ∀ (L : J → Prop) e c' es', topC P cx e c' es' → Runs c' (KOf L y) → Qr e es'.den := by
    intro L e c' es' h hr
    have hend : endC P cx c' es' → ∃ s', RefB B cx.nt w0 es'.den s' ∧ retG P s' cx.rvs (cx.res y) cx.mh (cx.outs y) := by
      intro h
      obtain ⟨c2, es2, h1, h2, h3⟩ := pre_ok (B := B) (nt := cx.nt) (w0 := w0) c' es' h hr
      split at h1
      · rename_i y'
        have hy : y' = y := h2
        subst hy
        refine ⟨_, h3, ?_⟩
        split at h1
        · rename_i avs oc e1 e2
          split at h1
          · rename_i cells e3
            obtain ⟨g1, g2⟩ := gd_elim h1
            simp only [Bool.and_eq_true] at g1
            unfold retG
            refine ⟨cellsSmall_ok g1.1.1.1, ?_⟩
            simp only [e1, e2, e3]
            exact ⟨lensEq_ok g1.1.1.2, outRs_ok g2, nodupP_ok g1.1.2, disjP_ok g1.2⟩
          · exact h1.elim
        · exact h1.elim
      · exact h1.elim
    cases e with
    | normal => obtain ⟨s', g1, g2⟩ := hend h; exact ⟨s', g1, .inl rfl, g2⟩
    | ret => obtain ⟨s', g1, g2⟩ := hend h; exact ⟨s', g1, .inr rfl, g2⟩
    | _ => exact h.elim
  have claim : ∀ n j, EvN cert n j y → ∀ c Q, posA B cx.nt w0 P n body Qr (cx.path j) = some (c, Q) → EntA B cx.nt w0 P n c Q (cx.snap j).es.den := by
    intro n
    induction n with
    | zero => intro j h; exact h.elim
    | succ n ih =>
      intro j h c Q hp
      have hc := hj j
      unfold chkAt at hc
      split at hc
      · rename_i x Qc e
        obtain ⟨Qa, e1, h1⟩ := posC_ok (L := fun j => EvN cert n j y) hm hos' ih (htop _) _ _ _ e
        obtain ⟨Q', e2, h2⟩ := posA_mono (Nat.le_succ n) _ _ _ e1
        rw [e2] at hp
        cases hp
        show AWp B cx.nt w0 P x (thenA (loopN B cx.nt w0 P n x Q) Q) _
        refine awp_mono (execC_ok (L := fun j => EvN cert n j y) (y0 := y) hm hos' ih x (0 :: cx.path j) _ (thenA (loopN B cx.nt w0 P n x Qa) Qa) _ _ (by simp only [posA, e1]) hc h fun e c' es' he hr' => ?_) (thenA_mono (fun s hs => loopN_mono h2 n n s (Nat.le_refl _) hs) h2)
        cases e with
        | normal =>
          have he' : meet cx (cx.path j) (fun _ _ => False) c' es' := he
          rcases meet_ok (B := B) (nt := cx.nt) (w0 := w0) hos' he' hr' with ⟨j', s2, g1, rfl, g3, g4⟩ | ⟨c2, es2, g1, _⟩
          · exact loopN_refB g1 (ih j' g4 (.loop x) Qa (by rw [g3]; exact e1))
          · exact g1.elim
        | _ => exact h1 _ _ _ he hr'
      · rename_i x Qc hnl e
        obtain ⟨Qa, e1, h1⟩ := posC_ok (L := fun j => EvN cert n j y) hm hos' ih (htop _) _ _ _ e
        obtain ⟨Q', e2, h2⟩ := posA_mono (Nat.le_succ n) _ _ _ e1
        rw [e2] at hp
        cases hp
        have hawp := awp_mono (execC_ok (L := fun j => EvN cert n j y) (y0 := y) hm hos' ih c (cx.path j) Qc Qa _ _ e1 hc h h1) h2
        cases c with
        | loop x' => exact (hnl x' rfl).elim
        | _ => exact hawp
      · exact hc.elim
  obtain ⟨n, hr'⟩ := evEx hr
  have := execC_ok (L := fun j => EvN cert n j y) (y0 := y) (n := n) (body := body) (Qr := Qr) hm hos' (claim n) body [] (topC P cx) Qr c0 (ES.init args) rfl h0 hr' (htop _)
  rw [den_init] at this
  exact this

end
end Go.AV
