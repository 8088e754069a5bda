/- From a body's walk to the function's contract. -/
import Derived.Test.YtlgnflbekdldnaaAv13
set_option linter.unusedVariables false
set_option linter.unusedSimpArgs false
namespace Go.AV
open Go.RowKit

section
variable {B : Nat → Prop} {nt : Nat} {w0 w : World} {s : AS} {a : Act} {gv : GV} {P : Program} {K : AS → Prop}

/-- An argument, as the callee has it. -/
def DV.av : DV → AV
  | .one c => .one (.c c)
  | .agg cs => .agg (cs.map .c)

/-- The state when a function is entered. -/
def AS.init (args : List DV) : AS := { t := fun i => if i < args.length then (args.getD i (.one .junk)).av else .undef, H := fun _ _ => none, N := fun _ => 0 }

/-! ### Returning -/
def retC (s : AS) : A → R → Prop
  | .c x, .c y => x = y
  | .nil, .c y => y = .sl []
  | .nil, .own _ _ xs => xs = []
  | .own h v, .own E sz xs => s.H h v = some (.arr E sz xs)
  | .own h v, .c y => ∃ E sz xs, s.H h v = some (.arr E sz xs) ∧ y = .sl xs
  | _, _ => False

def retCs (s : AS) : List A → List R → Prop
  | [], [] => True
  | x :: xs, r :: rs => retC s x r ∧ retCs s xs rs
  | _, _ => False

/-- Handles that are given away as fresh; handles that are given away to be read. -/
def gives : List A → List R → List (Nat × Nat)
  | .own h v :: xs, .own _ _ _ :: rs => (h, v) :: gives xs rs
  | _ :: xs, _ :: rs => gives xs rs
  | _, _ => []
def shows : List A → List R → List (Nat × Nat)
  | .own h v :: xs, .c _ :: rs => (h, v) :: shows xs rs
  | _ :: xs, _ :: rs => shows xs rs
  | _, _ => []

/-- The result variables' values. -/
def retAV (P : Program) (s : AS) : ResultVar → Option AV
  | .tmp t => some (s.t t)
  | .cell p t => match tiOf P t, s.t p with
    | some ti, .one pa => (s.rd ti.size pa).map (mkAV ti.agg)
    | _, _ => none

def retAVs (P : Program) (s : AS) : List ResultVar → Option (List AV)
  | [] => some []
  | r :: rs => match retAV P s r, retAVs P s rs with
    | some x, some xs => some (x :: xs)
    | _, _ => none

/-- The cells of results, in their form. -/
def retForm : List AV → List RV → Option (List A)
  | [], [] => some []
  | .one x :: xs, .one _ :: rs => (retForm xs rs).map (x :: ·)
  | .agg l :: xs, .agg k :: rs => if l.length = k.length then (retForm xs rs).map (l ++ ·) else none
  | _, _ => none

/-- The state may return 'res'. -/
def retOk (P : Program) (s : AS) (rvs : List ResultVar) (res : List RV) : Prop :=
  (∀ p t, ResultVar.cell p t ∈ rvs → ∀ ti, tiOf P t = some ti → ti.agg = false → ti.size = 1) ∧
  match retAVs P s rvs with
  | some avs => match retForm avs res with
    | some cells => retCs s cells (res.flatMap RV.cells) ∧ (gives cells (res.flatMap RV.cells)).Nodup ∧ ∀ p ∈ shows cells (res.flatMap RV.cells), p ∉ gives cells (res.flatMap RV.cells)
    | none => False
  | none => False

theorem retCs_get {xs : List A} : ∀ {rs : List R}, retCs s xs rs → xs.length = rs.length ∧ ∀ m, m < rs.length → retC s (xs.getD m .any) (rs.getD m (.c .junk)) := by
  induction xs with
  | nil => intro rs h; cases rs with
    | nil => exact ⟨rfl, fun m hm => by simp at hm⟩
    | cons => exact h.elim
  | cons x xs ih => intro rs h; cases rs with
    | nil => exact h.elim
    | cons r rs =>
      obtain ⟨e1, e2⟩ := ih h.2
      refine ⟨by simp [e1], fun m hm => ?_⟩
      cases m with
      | zero => exact h.1
      | succ m => simpa using e2 m (by simpa using hm)

theorem gives_get {xs : List A} : ∀ {rs : List R} (m : Nat) (h v E sz : Nat) (ys : List (List C)), m < rs.length → m < xs.length → xs.getD m .any = .own h v → rs.getD m (.c .junk) = .own E sz ys → (h, v) ∈ gives xs rs := by
  induction xs with
  | nil => intro rs m h v E sz ys _ hm; simp at hm
  | cons x xs ih =>
    intro rs m h v E sz ys h1 h2 h3 h4
    cases rs with
    | nil => simp at h1
    | cons r rs =>
      cases m with
      | zero =>
        simp only [List.getD_cons_zero] at h3 h4
        subst h3 h4
        simp [gives]
      | succ m =>
        have := ih m h v E sz ys (by simpa using h1) (by simpa using h2) (by simpa using h3) (by simpa using h4)
        cases x <;> cases r <;> simp [gives, this]

theorem shows_get {xs : List A} : ∀ {rs : List R} (m : Nat) (h v : Nat) (y : C), m < rs.length → m < xs.length → xs.getD m .any = .own h v → rs.getD m (.c .junk) = .c y → (h, v) ∈ shows xs rs := by
  induction xs with
  | nil => intro rs m h v y _ hm; simp at hm
  | cons x xs ih =>
    intro rs m h v y h1 h2 h3 h4
    cases rs with
    | nil => simp at h1
    | cons r rs =>
      cases m with
      | zero =>
        simp only [List.getD_cons_zero] at h3 h4
        subst h3 h4
        simp [shows]
      | succ m =>
        have := ih m h v y (by simpa using h1) (by simpa using h2) (by simpa using h3) (by simpa using h4)
        cases x <;> cases r <;> simp [shows, this]

theorem gives_inj {xs : List A} : ∀ {rs : List R}, (gives xs rs).Nodup → ∀ (m m' h v E sz E' sz' : Nat) (ys ys' : List (List C)), m < rs.length → m < xs.length → m' < rs.length → m' < xs.length → xs.getD m .any = .own h v → xs.getD m' .any = .own h v →
    rs.getD m (.c .junk) = .own E sz ys → rs.getD m' (.c .junk) = .own E' sz' ys' → m = m' := by
  induction xs with
  | nil => intro rs _ m m' h v E sz E' sz' ys ys' _ hm; simp at hm
  | cons x xs ih =>
    intro rs hnd m m' h v E sz E' sz' ys ys' h1 h2 h3 h4 h5 h6 h7 h8
    cases rs with
    | nil => simp at h1
    | cons r rs =>
      cases m with
      | zero =>
        simp only [List.getD_cons_zero] at h5 h7
        subst h5 h7
        cases m' with
        | zero => rfl
        | succ m' =>
          exfalso
          simp only [gives, List.nodup_cons] at hnd
          exact hnd.1 (gives_get m' h v E' sz' ys' (by simpa using h3) (by simpa using h4) (by simpa using h6) (by simpa using h8))
      | succ m =>
        cases m' with
        | zero =>
          exfalso
          simp only [List.getD_cons_zero] at h6 h8
          subst h6 h8
          simp only [gives, List.nodup_cons] at hnd
          exact hnd.1 (gives_get m h v E sz ys (by simpa using h1) (by simpa using h2) (by simpa using h5) (by simpa using h7))
        | succ m' =>
          have hnd' : (gives xs rs).Nodup := by
            cases x <;> cases r <;> simp only [gives, List.nodup_cons] at hnd <;> first | exact hnd | exact hnd.2
          rw [ih hnd' m m' h v E sz E' sz' ys ys' (by simpa using h1) (by simpa using h2) (by simpa using h3) (by simpa using h4) (by simpa using h5) (by simpa using h6) (by simpa using h7) (by simpa using h8)]

theorem SimG.ret {ok : Nat → Prop} (hB : ∀ b, B b → ok b ∨ w0.heap.size ≤ b) (hs : SimG B nt w0 s a w gv) {xs : List A} {rs : List R} {vs : List Value} (hrep : RepAs B w s gv xs vs) (hr : retCs s xs rs) (hnd : (gives xs rs).Nodup) (hsh : ∀ p ∈ shows xs rs, p ∉ gives xs rs) :
    RepRs w0 w ok rs vs := by
  obtain ⟨hl, hget⟩ := retCs_get hr
  have hvl : vs.length = rs.length := by rw [hrep.1, hl]
  -- an own result is a live row
  have hown : ∀ m, m < rs.length → ∀ b, ownOf (rs.getD m (.c .junk)) (vs.getD m Go.undef) = some b → ∃ h v E sz ys, xs.getD m .any = .own h v ∧ rs.getD m (.c .junk) = .own E sz ys ∧ s.H h v = some (.arr E sz ys) ∧ blkOf (gv h v) = some b := by
    intro m hm b hb
    have hg := hget m hm
    have hx := hrep.2 m (by omega)
    generalize hxe : xs.getD m .any = x at hg hx
    generalize hre : rs.getD m (.c .junk) = r at hg hb
    generalize hve : vs.getD m Go.undef = vv at hx hb
    cases r with
    | c => cases hb
    | own E sz ys =>
      cases x with
      | nil => cases hx; cases hb
      | own h v =>
        simp only [retC] at hg
        cases hx with
        | own hv hxx =>
          have := hxx (by rw [hg]; simp)
          rw [this] at hb
          exact ⟨h, v, E, sz, ys, rfl, rfl, hg, blkOf_ownBlock hb⟩
      | _ => simp [retC] at hg
  have hokmono : ∀ b, okb B s gv b → (ok b ∨ w0.heap.size ≤ b) ∧ ∀ j, j < rs.length → ownOf (rs.getD j (.c .junk)) (vs.getD j Go.undef) ≠ some b := by
    intro b hb
    refine ⟨hB b hb.1, fun j hj e => ?_⟩
    obtain ⟨h, v, E, sz, ys, _, _, hH, hbk⟩ := hown j hj b e
    exact hb.2 h v (by rw [hH]; simp) hbk
  refine ⟨hvl, fun m hm => ?_, fun i j b hi hj hbi hbj => ?_⟩
  · have hg := hget m hm
    have hx := hrep.2 m (by omega)
    generalize hxe : xs.getD m .any = x at hg hx
    generalize hre : rs.getD m (.c .junk) = r at hg
    cases x with
    | c x =>
      cases r with
      | c y =>
        simp only [retC] at hg
        subst hg
        cases hx with | c hx => exact hx.mono (fun b _ hb => hokmono b hb) (Nat.le_refl _) (fun _ _ _ => rfl)
      | own => simp [retC] at hg
    | nil =>
      generalize hve : vs.getD m Go.undef = v at hx
      cases hx
      cases r with
      | c y => simp only [retC] at hg; subst hg; exact .nil
      | own E sz ys =>
        simp only [retC] at hg
        subst hg
        exact ⟨[], by simp, World.ownsRow_nil _ _ _ _, rfl, by simp⟩
    | own h v =>
      generalize hve : vs.getD m Go.undef = u at hx
      cases hx with
      | own hv hxx =>
        cases r with
        | own E sz ys =>
          simp only [retC] at hg
          have := hxx (by rw [hg]; simp)
          subst this
          obtain ⟨vals, h1, h2, h3⟩ := hs.live h v _ hg
          exact ⟨vals, h1, h2, h3.mono (fun b _ hb => hokmono b hb) (Nat.le_refl _) (fun _ _ _ => rfl)⟩
        | c y =>
          simp only [retC] at hg
          obtain ⟨E, sz, ys, hH, rfl⟩ := hg
          have := hxx (by rw [hH]; simp)
          subst this
          obtain ⟨vals, h1, h2, h3⟩ := hs.live h v _ hH
          refine RepCs.sl h1 h2 (h3.mono (fun b _ hb => hokmono b hb) (Nat.le_refl _) (fun _ _ _ => rfl)) (fun b hb => ⟨.inr ((hs.live h v _ hH).blk b hb).1, fun j hj e => ?_⟩)
          obtain ⟨h', v', E', sz', ys', hxe', hre', hH', hbk'⟩ := hown j hj b e
          obtain ⟨rfl, rfl⟩ := hs.inj h v h' v' b (by rw [hH]; simp) (by rw [hH']; simp) hb hbk'
          exact hsh _ (shows_get m h v _ hm (by omega) hxe hre) (gives_get j h v E' sz' ys' hj (by omega) hxe' hre')
    | _ => simp [retC] at hg
  · obtain ⟨h, v, E, sz, ys, e1, e2, e3, e4⟩ := hown i hi b hbi
    obtain ⟨h', v', E', sz', ys', e1', e2', e3', e4'⟩ := hown j hj b hbj
    obtain ⟨rfl, rfl⟩ := hs.inj h v h' v' b (by rw [e3]; simp) (by rw [e3']; simp) e4 e4'
    exact gives_inj hnd i j h v E sz E' sz' ys ys' hi (by omega) hj (by omega) e1 e1' e2 e2'

theorem retForm_ok : ∀ {avs : List AV} {res : List RV} {cells : List A} {vs : List Value}, vs.length = avs.length → (∀ m, m < avs.length → RepAV B w s gv (avs.getD m .undef) (vs.getD m Go.undef)) → retForm avs res = some cells →
    ∃ cs, fitsAll res vs cs ∧ RepAs B w s gv cells cs := by
  intro avs
  induction avs with
  | nil =>
    intro res cells vs hn h hf
    cases res with
    | nil =>
      simp [retForm] at hf
      subst hf
      cases vs with
      | nil => exact ⟨[], rfl, rfl, fun m hm => by simp at hm⟩
      | cons => simp at hn
    | cons => simp [retForm] at hf
  | cons x avs ih =>
    intro res cells vs hn h hf
    cases vs with
    | nil => simp at hn
    | cons v vs =>
      have hx : RepAV B w s gv x v := h 0 (by simp)
      have hrest : ∀ m, m < avs.length → RepAV B w s gv (avs.getD m .undef) (vs.getD m Go.undef) := fun m hm => by simpa using h (m + 1) (by simpa using hm)
      cases res with
      | nil => cases x <;> simp [retForm] at hf
      | cons r res =>
        cases x with
        | one x =>
          cases r with
          | one r =>
            simp only [retForm, Option.map_eq_some_iff] at hf
            obtain ⟨cells', h1, rfl⟩ := hf
            obtain ⟨cs, h2, h3⟩ := ih (by simpa using hn) hrest h1
            cases hx with
            | one hx =>
              refine ⟨v :: cs, ⟨[v], cs, rfl, h2, rfl⟩, by simp [h3.1], fun m hm => ?_⟩
              cases m with
              | zero => exact hx
              | succ m => simpa using h3.2 m (by simpa using hm)
          | agg => simp [retForm] at hf
        | agg l =>
          cases r with
          | one => simp [retForm] at hf
          | agg k =>
            simp only [retForm] at hf
            split at hf
            · rename_i hlk
              simp only [Option.map_eq_some_iff] at hf
              obtain ⟨cells', h1, rfl⟩ := hf
              obtain ⟨cs, h2, h3⟩ := ih (by simpa using hn) hrest h1
              cases hx with
              | @agg _ us hx =>
                refine ⟨us.toList ++ cs, ⟨us.toList, cs, ⟨us, rfl, rfl, by rw [hx.1, hlk]⟩, h2, rfl⟩, ?_, fun m hm => ?_⟩
                · rw [List.length_append, List.length_append, hx.1, h3.1]
                · by_cases hlt : m < l.length
                  · rw [getD_app_l _ _ _ _ hlt, getD_app_l _ _ _ _ (by rw [hx.1]; exact hlt)]
                    exact hx.2 m hlt
                  · rw [getD_app_r _ _ _ _ (by omega), getD_app_r _ _ _ _ (by rw [hx.1]; omega), hx.1]
                    exact h3.2 _ (by simp at hm; omega)
            · cases hf
        | tup => cases r <;> simp [retForm] at hf
        | undef => cases r <;> simp [retForm] at hf

theorem SimG.results (hs : SimG B nt w0 s a w gv) (f : ResultVar → Sem Value) (hf : f = fun | .tmp t => pure (a.tmps.getD t Go.undef) | .cell p t => do loadVar t (← asAddr (a.tmps.getD p Go.undef))) :
    ∀ (rvs : List ResultVar) (avs : List AV), (∀ p t, ResultVar.cell p t ∈ rvs → ∀ ti, tiOf P t = some ti → ti.agg = false → ti.size = 1) → retAVs P s rvs = some avs →
      ∃ vs : List Value, (rvs.mapM f).run P w = .ok vs w ∧ vs.length = avs.length ∧ ∀ m, m < avs.length → RepAV B w s gv (avs.getD m .undef) (vs.getD m Go.undef) := by
  intro rvs
  induction rvs with
  | nil => intro avs _ h; simp [retAVs] at h; subst h; exact ⟨[], rfl, rfl, fun m hm => by simp at hm⟩
  | cons r rvs ih =>
    intro avs hn1 h
    simp only [retAVs] at h
    split at h
    · rename_i x xs h1 h2
      cases h
      obtain ⟨vs, q1, q2, q3⟩ := ih xs (fun p t hp => hn1 p t (by simp [hp])) h2
      have hone : ∃ v, (f r).run P w = .ok v w ∧ RepAV B w s gv x v := by
        subst hf
        cases r with
        | tmp t => simp [retAV] at h1; subst h1; exact ⟨_, rfl, hs.tmps t⟩
        | cell p t =>
          simp only [retAV] at h1
          split at h1
          · rename_i ti pa ht hp
            simp only [Option.map_eq_some_iff] at h1
            obtain ⟨cs, hrd, rfl⟩ := h1
            obtain ⟨i, d, g1, g2, g3, g4, _⟩ := tiOf_some ht
            have hn := hn1 p t (by simp) ti ht
            have hpv := hs.tmps p
            rw [hp] at hpv
            generalize hev : a.tmps.getD p Go.undef = v at hpv
            cases hpv with
            | one hpv =>
              obtain ⟨b, off, rfl, vals, hra, hrep, hl⟩ := hs.rd hpv hrd
              refine ⟨_, ?_, hrep.mkAV ti.agg (fun e => by rw [hl]; exact hn e)⟩
              have hlv : vals.length = ti.size := by rw [hrep.1, hl]
              cases hag : ti.agg with
              | true =>
                have := run_loadVar_mid (P := P) w b off t vals d hra g2 (by rw [← g3]; exact hag) (by rw [g1]; simp [hlv, g4])
                simp only [hev, Sem.run_bind, asAddr, Sem.run_pure, Result.andThen_ok, this]
                rfl
              | false =>
                have hs1 := hn hag
                have hisagg := isAgg_run g2 w
                rw [← g3, hag] at hisagg
                have hc : w.cell? ⟨b, off, none⟩ = some (vals.getD 0 Go.undef) := by
                  have := hra 0 (vals.getD 0 Go.undef) (by rw [getD_lt _ _ _ (by omega)]; exact List.getElem?_eq_getElem (by omega))
                  simpa using this
                simp [hev, asAddr, loadVar, hisagg, hc]
          · cases h1
      obtain ⟨v, r1, r2⟩ := hone
      refine ⟨v :: vs, by simp [List.mapM_cons, r1, q1], by simp [q2], fun m hm => ?_⟩
      cases m with
      | zero => exact r2
      | succ m => simpa using q3 m (by simpa using hm)
    · cases h

/-- THE RULE for a function: its body, walked from the state that the arguments make. -/
theorem spec_of_body {f : FuncId} {fn : Func} {c : Code} {args : List DV} {res : List RV} (hf : P.funcs[f]? = some fn) (hb : fn.body = some c) (hname : (fn.name == "runtime.NumGoroutine") = false) (hn : args.length ≤ fn.ntmps)
    (h : ∀ (B : Nat → Prop) (w0 : World), AWp B fn.ntmps w0 P c (fun e s => (e = .normal ∨ e = .ret) ∧ retOk P s fn.results.toList res) (AS.init args)) : Spec P f args res := by
  refine ⟨⟨fn, hf, by rw [hb]; rfl, hname⟩, fun w ok vs hargs => ?_⟩
  refine calls_of_wp hf hb ?_
  let B : Nat → Prop := fun b => ok b ∨ w.heap.size ≤ b
  have hs : SimG B fn.ntmps w (AS.init args) { tmps := vs.toArray ++ Array.replicate (fn.ntmps - vs.toArray.size) Go.undef, defers := [] } w (fun _ _ => Go.undef) := by
    have hvl : vs.length = args.length := hargs.1
    refine ⟨fun b hb => .inr hb, rfl, by simp; omega, Below.refl _ _, fun h v hh => absurd rfl hh, fun h v blk hh => by simp [AS.init] at hh, fun h v _ _ _ hh => absurd rfl hh, fun i => ?_⟩
    by_cases hi : i < args.length
    · have e1 : (AS.init args).t i = (args.getD i (.one .junk)).av := by simp only [AS.init]; rw [if_pos hi]
      have e2 : (vs.toArray ++ Array.replicate (fn.ntmps - vs.toArray.size) Go.undef).getD i Go.undef = vs.getD i Go.undef := by
        simp only [Array.getD_eq_getD_getElem?, List.getD_eq_getElem?_getD]
        rw [Array.getElem?_append_left (by simp; omega)]
        simp
      rw [e1, e2]
      have hd := hargs.2 i hi
      have hokb : ∀ b, ok b → okb B (AS.init args) (fun _ _ => Go.undef) b := fun b hb => ⟨.inl hb, fun h v hh => absurd rfl hh⟩
      generalize args.getD i (.one .junk) = d at hd
      cases d with
      | one c => exact .one (.c (RepC.mono hd (fun b _ hb => hokb b hb) (Nat.le_refl _) (fun _ _ _ => rfl)))
      | agg cs =>
        obtain ⟨us, hu, hcs⟩ := hd
        rw [hu]
        refine .agg ⟨by simp only [List.length_map]; exact hcs.1, fun m hm => ?_⟩
        have hm' : m < cs.length := by simpa using hm
        rw [getD_map A.c _ _ C.junk _ hm']
        exact .c ((hcs.2 m hm').mono (fun b _ hb => hokb b hb) (Nat.le_refl _) (fun _ _ _ => rfl))
    · have e1 : (AS.init args).t i = .undef := by simp only [AS.init]; rw [if_neg hi]
      rw [e1]
      exact .undef
  refine wp_mono (h B w _ w ⟨_, hs⟩) ?_
  rintro e a' w' ⟨s', ⟨he, hret⟩, gv', hs'⟩
  have fin : a'.defers = [] ∧ ∃ v, (results fn a'.tmps).run P w' = .ok v w' ∧ ∃ v', Ending.returned v = .returned v' ∧ Below w.heap.size w w' ∧ RepRes w w' ok res v' := by
    refine ⟨hs'.defers, ?_⟩
    obtain ⟨hcell, hret⟩ := hret
    split at hret
    · rename_i avs havs
      split at hret
      · rename_i cells hcells
        obtain ⟨h1, h2, h3⟩ := hret
        obtain ⟨us, q1, q2, q3⟩ := hs'.results (P := P) _ rfl _ avs hcell havs
        obtain ⟨cs, q4, q5⟩ := retForm_ok q2 q3 hcells
        have hrs := hs'.ret (ok := ok) (fun b hb => hb) q5 h1 h2 h3
        refine ⟨packRes us, ?_, _, rfl, hs'.below, us, cs, rfl, q4, hrs⟩
        have hm : (fn.results.mapM fun (rv : ResultVar) => (match rv with
            | .tmp t => (pure (a'.tmps.getD t Go.undef) : Sem Value)
            | .cell p t => do loadVar t (← asAddr (a'.tmps.getD p Go.undef)))).run P w' = .ok us.toArray w' := by
          rw [Array.mapM_eq_mapM_toList]
          simp only [Sem.run_map, q1, Result.andThen_ok]
        have he : results fn a'.tmps = ((fn.results.mapM fun (rv : ResultVar) => (match rv with
            | .tmp t => (pure (a'.tmps.getD t Go.undef) : Sem Value)
            | .cell p t => do loadVar t (← asAddr (a'.tmps.getD p Go.undef)))) >>= fun vs => pure (if h : vs.size = 1 then vs[0] else .tuple vs)) := rfl
        rw [he, Sem.run_bind, hm]
        simp only [Result.andThen_ok, Sem.run_pure]
        congr 1
        match us with
        | [] => rfl
        | [x] => rfl
        | x :: y :: l => rfl
      · exact hret.elim
    · exact hret.elim
  rcases he with rfl | rfl <;> exact fin

end
end Go.AV
