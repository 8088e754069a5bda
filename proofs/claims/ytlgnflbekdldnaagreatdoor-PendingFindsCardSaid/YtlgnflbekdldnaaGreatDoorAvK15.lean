/- Texts Av14. -/
import Derived.Test.YtlgnflbekdldnaaGreatDoorAvK14
set_option linter.unusedVariables false
set_option linter.unusedSimpArgs false
set_option linter.unusedSectionVars false
noncomputable section
namespace Go.AV
open Go.RowKit
section
variable {B : Nat → Prop} {nt : Nat} {w0 : Base} {w : World} {s : AS} {a : Act} {gv : GV} {P : Program} {K : AS → Prop} [InvC P B w0]
def DV.av : DV → AV
  | .one c => .one (.c c)
  | .agg cs => .agg (cs.map .c)
def AS.init (args : List DV) : AS := { t := fun i => if i < args.length then (args.getD i (.one .junk)).av else .undef, H := fun _ _ => none, N := fun _ => 0 }
def retAV (P : Program) (s : AS) : ResultVar → Option AV
  | .tmp t => some (s.t t)
  | .cell p t => match tiOf P t, s.t p with
    | some ti, .one pa => (s.rd ti.size pa).map (mkAV ti.agg)
    | _, _ => none
def retAVs (P : Program) (s : AS) : List ResultVar → Option (List AV)
  | [] => some []
  | r :: rs => match retAV P s r, retAVs P s rs with
    | some x, some xs => some (x :: xs)
    | _, _ => none
def retForm : List AV → List RV → Option (List A)
  | [], [] => some []
  | .one x :: xs, .one _ :: rs => (retForm xs rs).map (x :: ·)
  | .agg l :: xs, .agg k :: rs => if l.length = k.length then (retForm xs rs).map (l ++ ·) else none
  | _, _ => none
theorem RepRs.fr {fr fr' : Nat → Prop} {ok : Nat → Prop} {rs : List R} {vs : List Value} (h : RepRs fr w ok rs vs) (hf : ∀ b, fr b ↔ fr' b) : RepRs fr' w ok rs vs := by
  have : fr = fr' := funext fun b => propext (hf b)
  rw [← this]; exact h
theorem retForm_ok : ∀ {avs : List AV} {res : List RV} {cells : List A} {vs : List Value}, vs.length = avs.length → (∀ m, m < avs.length → RepAV B w s gv (avs.getD m .undef) (vs.getD m Go.undef)) → retForm avs res = some cells →
    ∃ cs, fitsAll res vs cs ∧ RepAs B w s gv cells cs := by
  intro avs
  induction avs with
  | nil =>
    intro res cells vs hn h hf
    cases res with
    | nil =>
      simp [retForm] at hf
      subst hf
      cases vs with
      | nil => exact ⟨[], rfl, rfl, fun m hm => by simp at hm⟩
      | cons => simp at hn
    | cons => simp [retForm] at hf
  | cons x avs ih =>
    intro res cells vs hn h hf
    cases vs with
    | nil => simp at hn
    | cons v vs =>
      have hx : RepAV B w s gv x v := h 0 (by simp)
      have hrest : ∀ m, m < avs.length → RepAV B w s gv (avs.getD m .undef) (vs.getD m Go.undef) := fun m hm => by simpa using h (m + 1) (by simpa using hm)
      cases res with
      | nil => cases x <;> simp [retForm] at hf
      | cons r res =>
        cases x with
        | one x =>
          cases r with
          | one r =>
            simp only [retForm, Option.map_eq_some_iff] at hf
            obtain ⟨cells', h1, rfl⟩ := hf
            obtain ⟨cs, h2, h3⟩ := ih (by simpa using hn) hrest h1
            cases hx with
            | one hx =>
              refine ⟨v :: cs, ⟨[v], cs, rfl, h2, rfl⟩, by simp [h3.1], fun m hm => ?_⟩
              cases m with
              | zero => exact hx
              | succ m => simpa using h3.2 m (by simpa using hm)
          | agg => simp [retForm] at hf
        | agg l =>
          cases r with
          | one => simp [retForm] at hf
          | agg k =>
            simp only [retForm] at hf
            split at hf
            · rename_i hlk
              simp only [Option.map_eq_some_iff] at hf
              obtain ⟨cells', h1, rfl⟩ := hf
              obtain ⟨cs, h2, h3⟩ := ih (by simpa using hn) hrest h1
              cases hx with
              | @agg _ us hx =>
                refine ⟨us.toList ++ cs, ⟨us.toList, cs, ⟨us, rfl, rfl, by rw [hx.1, hlk]⟩, h2, rfl⟩, ?_, fun m hm => ?_⟩
                · rw [List.length_append, List.length_append, hx.1, h3.1]
                · by_cases hlt : m < l.length
                  · rw [getD_app_l _ _ _ _ hlt, getD_app_l _ _ _ _ (by rw [hx.1]; exact hlt)]
                    exact hx.2 m hlt
                  · rw [getD_app_r _ _ _ _ (by omega), getD_app_r _ _ _ _ (by rw [hx.1]; omega), hx.1]
                    exact h3.2 _ (by simp at hm; omega)
            · cases hf
        | tup => cases r <;> simp [retForm] at hf
        | undef => cases r <;> simp [retForm] at hf
theorem SimG.results (hs : SimG B nt w0 s a w gv) (f : ResultVar → Sem Value) (hf : f = fun | .tmp t => pure (a.tmps.getD t Go.undef) | .cell p t => do loadVar t (← asAddr (a.tmps.getD p Go.undef))) :
    ∀ (rvs : List ResultVar) (avs : List AV), (∀ p t, ResultVar.cell p t ∈ rvs → ∀ ti, tiOf P t = some ti → ti.agg = false → ti.size = 1) → retAVs P s rvs = some avs →
      ∃ vs : List Value, (rvs.mapM f).run P w = .ok vs w ∧ vs.length = avs.length ∧ ∀ m, m < avs.length → RepAV B w s gv (avs.getD m .undef) (vs.getD m Go.undef) := by
  intro rvs
  induction rvs with
  | nil => intro avs _ h; simp [retAVs] at h; subst h; exact ⟨[], rfl, rfl, fun m hm => by simp at hm⟩
  | cons r rvs ih =>
    intro avs hn1 h
    simp only [retAVs] at h
    split at h
    · rename_i x xs h1 h2
      cases h
      obtain ⟨vs, q1, q2, q3⟩ := ih xs (fun p t hp => hn1 p t (by simp [hp])) h2
      have hone : ∃ v, (f r).run P w = .ok v w ∧ RepAV B w s gv x v := by
        subst hf
        cases r with
        | tmp t => simp [retAV] at h1; subst h1; exact ⟨_, rfl, hs.tmps t⟩
        | cell p t =>
          simp only [retAV] at h1
          split at h1
          · rename_i ti pa ht hp
            simp only [Option.map_eq_some_iff] at h1
            obtain ⟨cs, hrd, rfl⟩ := h1
            obtain ⟨i, d, g1, g2, g3, g4, _⟩ := tiOf_some ht
            have hn := hn1 p t (by simp) ti ht
            have hpv := hs.tmps p
            rw [hp] at hpv
            generalize hev : a.tmps.getD p Go.undef = v at hpv
            cases hpv with
            | one hpv =>
              obtain ⟨b, off, rfl, vals, hra, hrep, hl⟩ := hs.rd hpv hrd
              refine ⟨_, ?_, hrep.mkAV ti.agg (fun e => by rw [hl]; exact hn e)⟩
              have hlv : vals.length = ti.size := by rw [hrep.1, hl]
              cases hag : ti.agg with
              | true =>
                have := run_loadVar_mid (P := P) w b off t vals d hra g2 (by rw [← g3]; exact hag) (by rw [g1]; simp [hlv, g4])
                simp only [hev, Sem.run_bind, asAddr, Sem.run_pure, Result.andThen_ok, this]
                rfl
              | false =>
                have hs1 := hn hag
                have hisagg := isAgg_run g2 w
                rw [← g3, hag] at hisagg
                have hc : w.cell? ⟨b, off, none⟩ = some (vals.getD 0 Go.undef) := by
                  have := hra 0 (vals.getD 0 Go.undef) (by rw [getD_lt _ _ _ (by omega)]; exact List.getElem?_eq_getElem (by omega))
                  simpa using this
                simp [hev, asAddr, loadVar, hisagg, hc]
          · cases h1
      obtain ⟨v, r1, r2⟩ := hone
      refine ⟨v :: vs, by simp [List.mapM_cons, r1, q1], by simp [q2], fun m hm => ?_⟩
      cases m with
      | zero => exact r2
      | succ m => simpa using q3 m (by simpa using hm)
    · cases h
inductive All2 {X Y : Type} (R : X → Y → Prop) : List X → List Y → Prop
  | nil : All2 R [] []
  | cons {x : X} {y : Y} {xs : List X} {ys : List Y} (h : R x y) (t : All2 R xs ys) : All2 R (x :: xs) (y :: ys)
inductive WeakR : R → R → Prop
  | rfl {r : R} : WeakR r r
  | own {E sz : Nat} {xs : List (List C)} : WeakR (.own E sz xs) (.c (.sl xs))
inductive WeakV : RV → RV → Prop
  | one {r r' : R} (h : WeakR r r') : WeakV (.one r) (.one r')
  | agg {rs rs' : List R} (h : All2 WeakR rs rs') : WeakV (.agg rs) (.agg rs')
theorem weak_get {rs rs' : List R} (h : All2 WeakR rs rs') : rs.length = rs'.length ∧ ∀ m, WeakR (rs.getD m (.c .junk)) (rs'.getD m (.c .junk)) := by
  induction h with
  | nil => exact ⟨rfl, fun m => .rfl⟩
  | cons h _ ih => exact ⟨by simp [ih.1], fun m => by cases m with
    | zero => exact h
    | succ m => simpa using ih.2 m⟩
theorem weakR_refl : ∀ rs : List R, All2 WeakR rs rs
  | [] => .nil
  | _ :: rs => .cons .rfl (weakR_refl rs)
theorem forall2_app {rs rs' us us' : List R} (h : All2 WeakR rs rs') (h2 : All2 WeakR us us') : All2 WeakR (rs ++ us) (rs' ++ us') := by
  induction h with
  | nil => exact h2
  | cons h _ ih => exact .cons h ih
theorem weak_cells {res res' : List RV} (h : All2 WeakV res res') : All2 WeakR (res.flatMap RV.cells) (res'.flatMap RV.cells) := by
  induction h with
  | nil => exact .nil
  | cons h _ ih =>
    rw [List.flatMap_cons, List.flatMap_cons]
    refine forall2_app ?_ ih
    cases h with
    | one h => exact .cons h .nil
    | agg h => exact h
theorem weak_fits {res res' : List RV} (h : All2 WeakV res res') : ∀ {vs cs : List Value}, fitsAll res vs cs → fitsAll res' vs cs := by
  induction h with
  | nil => intro vs cs h; exact h
  | cons h _ ih =>
    intro vs cs hf
    cases vs with
    | nil => exact hf
    | cons v vs =>
      obtain ⟨c1, c2, h1, h2, h3⟩ := hf
      refine ⟨c1, c2, ?_, ih h2, h3⟩
      cases h with
      | one h => exact h1
      | agg h =>
        obtain ⟨us, q1, q2, q3⟩ := h1
        exact ⟨us, q1, q2, by rw [q3, (weak_get h).1]⟩
theorem RepRs.weak {fr ok : Nat → Prop} {w : World} {rs rs' : List R} {vs : List Value} (hr : RepRs fr w ok rs vs) (h : All2 WeakR rs rs') : RepRs fr w ok rs' vs := by
  obtain ⟨hl, hg⟩ := weak_get h
  obtain ⟨h1, h2, h3⟩ := hr
  have hown : ∀ j b, ownOf (rs'.getD j (.c .junk)) (vs.getD j Go.undef) = some b → ownOf (rs.getD j (.c .junk)) (vs.getD j Go.undef) = some b := by
    intro j b hb
    have := hg j
    generalize rs.getD j (.c .junk) = r at this
    generalize rs'.getD j (.c .junk) = r' at this hb
    cases this with
    | rfl => exact hb
    | own => cases hb
  have hmono : ∀ b, ((ok b ∨ fr b) ∧ ∀ j, j < rs.length → ownOf (rs.getD j (.c .junk)) (vs.getD j Go.undef) ≠ some b) → ((ok b ∨ fr b) ∧ ∀ j, j < rs'.length → ownOf (rs'.getD j (.c .junk)) (vs.getD j Go.undef) ≠ some b) :=
    fun b ⟨q1, q2⟩ => ⟨q1, fun j hj hb => q2 j (by omega) (hown j b hb)⟩
  refine ⟨by omega, fun m hm => ?_, fun i j b hi hj hbi hbj => h3 i j b (by omega) (by omega) (hown i b hbi) (hown j b hbj)⟩
  have hrep := h2 m (by omega)
  have hw := hg m
  have hdis : ∀ b, ownOf (rs'.getD m (.c .junk)) (vs.getD m Go.undef) = none → ownOf (rs.getD m (.c .junk)) (vs.getD m Go.undef) = some b → ∀ j, j < rs'.length → ownOf (rs'.getD j (.c .junk)) (vs.getD j Go.undef) ≠ some b := by
    intro b hn hb j hj hjb
    have e := h3 m j b (by omega) (by omega) hb (hown j b hjb)
    subst e
    rw [hn] at hjb
    cases hjb
  generalize hre : rs.getD m (.c .junk) = r at hw hrep hdis
  generalize hre' : rs'.getD m (.c .junk) = r' at hw hdis ⊢
  cases hw with
  | rfl =>
    cases r with
    | c x => exact RepC.mono hrep (fun b _ hb => hmono b hb) (Nat.le_refl _) (fun _ _ _ => rfl)
    | own E sz xs =>
      obtain ⟨vals, q1, q2, q3, q4⟩ := hrep
      exact ⟨vals, q1, q2, q3, q4.mono (fun b _ hb => hmono b hb) (Nat.le_refl _) (fun _ _ _ => rfl)⟩
  | @own E sz xs =>
    obtain ⟨vals, q1, q2, q3, q4⟩ := hrep
    refine RepCs.sl q1 q2 (q4.mono (fun b _ hb => hmono b hb) (Nat.le_refl _) (fun _ _ _ => rfl)) (fun b hb => ⟨.inr (q3 b ?_), hdis b rfl ?_⟩)
    · exact (own_blk q2 hb).1
    · exact (own_blk q2 hb).1
theorem Spec.weak {f : FuncId} {args : List DV} {res res' : List RV} (h : Spec P f args res) (hw : All2 WeakV res res') : Spec P f args res' := by
  refine ⟨h.1, fun w ok vs hr hi => (h.2 w ok vs hr hi).mono ?_⟩
  rintro e w' ⟨v, he, hb, us, cs, hv, hf, hrs⟩
  exact ⟨v, he, hb, us, cs, hv, weak_fits hw hf, hrs.weak (weak_cells hw)⟩
theorem Spec.c1 {f : FuncId} {args : List DV} {E sz : Nat} {xs : List (List C)} (h : Spec P f args [.one (.own E sz xs)]) : Spec P f args [.one (.c (.sl xs))] := h.weak (.cons (.one .own) .nil)
end
end Go.AV
end
