/- The walk's means: what is hidden from the simplifier, and the small rules that it takes. -/
import Derived.Test.YtlgnflbekdldnaaAv20
set_option linter.unusedVariables false
set_option linter.unusedSimpArgs false
namespace Go.AV
open Go.RowKit

/-- A hypothesis that the simplifier must not look into. -/
structure Hide (p : Prop) : Prop where
  out : p

section
variable {B : Nat → Prop} {nt : Nat} {w0 : Base} {w : World} {s s' : AS} {P : Program} {o : Oper} {ops : Array Oper} {r : List Oper} {K : AS → Prop} {Q : Exit → AS → Prop}

theorem aRun_h (h : ∀ K' : AS → Prop, Hide (∀ s', aRun P ops r s' K → K' s') → aG P ops o s K') : aRun P ops (o :: r) s K := h _ ⟨fun _ h => h⟩
theorem dWalk_h (h : ∀ K' : AS → Prop, Hide (∀ s', dWalk P ops r s' K → K' s') → dG P ops o s K') : dWalk P ops (o :: r) s K := h _ ⟨fun _ h => h⟩
theorem awp_seq_h {x y : Code} (h : ∀ M : AS → Prop, Hide (∀ s, AWp B nt w0 P y Q s → M s) → AWp B nt w0 P x (thenA M Q) s) : AWp B nt w0 P (.seq x y) Q s := awp_seq (h _ ⟨fun _ h => h⟩)

theorem thenA_normal (M : AS → Prop) : thenA M Q .normal s = M s := rfl
theorem thenA_exit (M : AS → Prop) (i : Nat) : thenA M Q (.exit i) s = Q (.exit i) s := rfl
theorem thenA_ret (M : AS → Prop) : thenA M Q .ret s = Q .ret s := rfl
theorem inBlockA_normal (i : Nat) : inBlockA i Q .normal s = Q .normal s := rfl
theorem inBlockA_ret (i : Nat) : inBlockA i Q .ret s = Q .ret s := rfl
theorem inBlockA_exit (i : Nat) : inBlockA i Q (.exit i) s = Q .normal s := by simp [inBlockA]
theorem inBlockA_exit' (i j : Nat) (h : (j == i) = false) : inBlockA i Q (.exit j) s = Q (.exit j) s := by
  have : j ≠ i := by simpa using h
  simp [inBlockA, this]

/-! ### Numbers -/
theorem b_add (k : IntKind) (a b : Int) : binC .add (.int k a) (.int k b) = some (.int k (k.wrap (a + b))) := by simp [binC]
theorem b_sub (k : IntKind) (a b : Int) : binC .sub (.int k a) (.int k b) = some (.int k (k.wrap (a - b))) := by simp [binC]
theorem b_mul (k : IntKind) (a b : Int) : binC .mul (.int k a) (.int k b) = some (.int k (k.wrap (a * b))) := by simp [binC]
theorem b_quo (k : IntKind) (a b : Int) (h : b ≠ 0) : binC .quo (.int k a) (.int k b) = some (.int k (k.wrap (a.tdiv b))) := by simp [binC, h]
theorem b_rem (k : IntKind) (a b : Int) (h : b ≠ 0) : binC .rem (.int k a) (.int k b) = some (.int k (a.tmod b)) := by simp [binC, h]
theorem b_eql (k : IntKind) (a b : Int) : binC .eql (.int k a) (.int k b) = some (.bool (decide (a = b))) := by
  simp [binC]; by_cases h : a = b <;> simp [h]
theorem b_neq (k : IntKind) (a b : Int) : binC .neq (.int k a) (.int k b) = some (.bool (!decide (a = b))) := by
  simp [binC]; by_cases h : a = b <;> simp [h, bne]
theorem b_lss (k : IntKind) (a b : Int) : binC .lss (.int k a) (.int k b) = some (.bool (decide (a < b))) := by simp [binC]
theorem b_leq (k : IntKind) (a b : Int) : binC .leq (.int k a) (.int k b) = some (.bool (decide (a ≤ b))) := by simp [binC]
theorem b_gtr (k : IntKind) (a b : Int) : binC .gtr (.int k a) (.int k b) = some (.bool (decide (b < a))) := by simp [binC]
theorem b_geq (k : IntKind) (a b : Int) : binC .geq (.int k a) (.int k b) = some (.bool (decide (b ≤ a))) := by simp [binC]
theorem b_seql (a b : ByteArray) : binC .eql (.str a) (.str b) = some (.bool (strEq a b)) := rfl
theorem b_sneq (a b : ByteArray) : binC .neq (.str a) (.str b) = some (.bool (!strEq a b)) := rfl
theorem b_slss (a b : ByteArray) : binC .lss (.str a) (.str b) = some (.bool (strLt a b)) := rfl
theorem b_sleq (a b : ByteArray) : binC .leq (.str a) (.str b) = some (.bool (strLt a b || strEq a b)) := rfl
theorem b_sgtr (a b : ByteArray) : binC .gtr (.str a) (.str b) = some (.bool (!(strLt a b || strEq a b))) := rfl
theorem b_sgeq (a b : ByteArray) : binC .geq (.str a) (.str b) = some (.bool (!strLt a b)) := rfl

/-! ### Cells that come from outside -/
theorem tb_c (x : C) : s.tb (.c x) = true := by rfl
theorem all_c (cs : List C) : (cs.map A.c).all s.tb = true := by simp [tb_c]
theorem cellsO_c (x : C) : s.cellsO (.one (.c x)) = some [.c x] := by simp [AS.cellsO, tb_c]
theorem cellsO_map (cs : List C) : s.cellsO (.agg (cs.map .c)) = some (cs.map .c) := by simp only [AS.cellsO, all_c, if_true]
theorem view_c (n : Nat) (x : C) : s.view n (.c x) = some x := by unfold AS.view; rfl
theorem views_c (n : Nat) (cs : List C) : s.views n (cs.map .c) = some cs := by
  induction cs with
  | nil => unfold AS.views; rfl
  | cons x xs ih => rw [List.map_cons]; unfold AS.views; rw [view_c, ih]
theorem viewV_c (x : C) : s.viewV (.one (.c x)) = some (.one x) := by simp [AS.viewV, view_c]
theorem viewV_map (cs : List C) : s.viewV (.agg (cs.map .c)) = some (.agg cs) := by simp [AS.viewV, views_c]
theorem viewVs_nil : s.viewVs [] = some [] := rfl
theorem viewVs_cons {x : AV} {xs : List AV} {d : DV} {ds : List DV} (h : s.viewV x = some d) (h2 : s.viewVs xs = some ds) : s.viewVs (x :: xs) = some (d :: ds) := by simp [AS.viewVs, h, h2]
theorem viewVs_cons' {x : AV} {xs : List AV} : s.viewVs (x :: xs) = match s.viewV x, s.viewVs xs with | some y, some ys => some (y :: ys) | _, _ => none := rfl
theorem lent_c (n : Nat) (x : C) : s.lent n (.c x) = [] := by cases n <;> (unfold AS.lent; rfl)
theorem lents_c (n : Nat) (cs : List C) : s.lents n (cs.map .c) = [] := by
  induction cs with
  | nil => unfold AS.lents; rfl
  | cons x xs ih => rw [List.map_cons]; unfold AS.lents; rw [lent_c, ih]; rfl
theorem lentV_c (x : C) : s.lentV (.one (.c x)) = [] := lent_c 3 x
theorem lentV_map (cs : List C) : s.lentV (.agg (cs.map .c)) = [] := lents_c 3 cs
theorem lentVs_nil : s.lentVs [] = [] := rfl
theorem lentVs_cons (x : AV) (xs : List AV) : s.lentVs (x :: xs) = s.lentV x ++ s.lentVs xs := rfl
theorem callee_fn0 (f : FuncId) : s.callee (.fn f []) = some (f, []) := by
  have : s.views 3 [] = some [] := by unfold AS.views; rfl
  simp [AS.callee, this]
theorem lentF_fn0 (f : FuncId) : s.lentF (.fn f []) = [] := by
  show s.lents 3 [] = []
  unfold AS.lents; rfl
theorem callee_c (f : FuncId) (cs : List C) : s.callee (.c (.fn f cs)) = some (f, cs) := rfl
theorem lentF_c (x : C) : s.lentF (.c x) = [] := rfl

/-! ### What a call gives back -/
theorem take_nil (base : Nat) : s.take base [] = s := rfl
theorem take_c (base : Nat) (x : C) (rs : List R) : s.take base (.c x :: rs) = s.take (base + 1) rs := rfl
theorem take_own (base : Nat) (E : TypeId) (sz : Nat) (xs : List (List C)) (rs : List R) : s.take base (.own E sz xs :: rs) = (s.new base (.arr E sz xs)).take (base + 1) rs := rfl
theorem take_map (cs : List C) : ∀ (base : Nat) (s : AS), s.take base (cs.map .c) = s := by
  induction cs with
  | nil => intro base s; rfl
  | cons x xs ih => intro base s; exact ih _ _
theorem take_app (rs rs' : List R) : ∀ (base : Nat) (s : AS), s.take base (rs ++ rs') = (s.take base rs).take (base + rs.length) rs' := by
  induction rs with
  | nil => intro base s; rfl
  | cons x xs ih =>
    intro base s
    cases x with
    | c y => rw [List.cons_append, take_c, take_c, ih, List.length_cons, Nat.add_assoc, Nat.add_comm 1]
    | own E sz ys => rw [List.cons_append, take_own, take_own, ih, List.length_cons, Nat.add_assoc, Nat.add_comm 1]
theorem cellsR_nil (base : Nat) : s.cellsR base [] = [] := rfl
theorem cellsR_c (base : Nat) (x : C) (rs : List R) : s.cellsR base (.c x :: rs) = .c x :: s.cellsR (base + 1) rs := rfl
theorem cellsR_own (base : Nat) (E : TypeId) (sz : Nat) (xs : List (List C)) (rs : List R) : s.cellsR base (.own E sz xs :: rs) = .own base (s.N base) :: s.cellsR (base + 1) rs := rfl
theorem cellsR_map (cs : List C) : ∀ (base : Nat), s.cellsR base (cs.map .c) = cs.map .c := by
  induction cs with
  | nil => intro base; rfl
  | cons x xs ih => intro base; exact congrArg _ (ih _)
theorem avR_nil (base : Nat) : s.avR base [] = [] := rfl
theorem avR_one_c (base : Nat) (x : C) (rs : List RV) : s.avR base (.one (.c x) :: rs) = .one (.c x) :: s.avR (base + 1) rs := rfl
theorem avR_one_own (base : Nat) (E : TypeId) (sz : Nat) (xs : List (List C)) (rs : List RV) : s.avR base (.one (.own E sz xs) :: rs) = .one (.own base (s.N base)) :: s.avR (base + 1) rs := rfl
theorem avR_agg (base : Nat) (l : List R) (rs : List RV) : s.avR base (.agg l :: rs) = .agg (s.cellsR base l) :: s.avR (base + l.length) rs := rfl
theorem pack_one (x : AV) : packAV [x] = x := rfl
theorem pack_nil : packAV [] = .tup [] := rfl
theorem pack_two (x y : AV) (xs : List AV) : packAV (x :: y :: xs) = .tup (x :: y :: xs) := rfl
theorem rv_one (r : R) : RV.cells (.one r) = [r] := rfl
theorem rv_agg (l : List R) : RV.cells (.agg l) = l := rfl
theorem hnd_some (d : Tmp) : hnd (some d) = 1000 * d := rfl
theorem hnd_none : hnd none = 0 := rfl

/-- The rule of a call whose arguments lend nothing. -/
theorem call_rule {x : AV} {f : FuncId} {caps : List C} {ds : List DV} {d : Option Tmp} {KO : Out → Prop} (res : List RV) (hsp : Spec P f (ds ++ caps.map .one) res) {l1 l2 : List (Nat × Nat)} (h1 : l1 = []) (h2 : l2 = [])
    (h : KO (.call [] (hnd d) (res.flatMap RV.cells) (packAV (s.avR (hnd d) res)))) :
    ∃ res, Spec P f (ds ++ caps.map .one) res ∧ ∃ kl, (kl = l1 ++ l2 ∨ (kl = [] ∧ ∀ r ∈ res.flatMap RV.cells, r.flat)) ∧ KO (.call kl (hnd d) (res.flatMap RV.cells) (packAV ((s.frzs kl).avR (hnd d) res))) :=
  ⟨res, hsp, [], .inl (by rw [h1, h2]; rfl), h⟩

/-! ### Returning -/
theorem retOk_tmp1 {t : Tmp} {res : List RV} {x : A} {r : R} (hx : s.t t = .one x) (hr : res = [.one r]) (h : retC s x r) : retOk P s [.tmp t] res := by
  subst hr
  refine ⟨fun p u hm => by simp at hm, ?_⟩
  simp only [retAVs, retAV, hx, retForm, Option.map, List.append_nil, List.flatMap_cons, RV.cells, List.flatMap_nil]
  refine ⟨⟨h, trivial⟩, ?_, ?_⟩
  · cases x <;> cases r <;> simp [gives]
  · cases x <;> cases r <;> simp [gives, shows]
theorem retOk_def {rvs : List ResultVar} {res : List RV} (h1 : ∀ p t, ResultVar.cell p t ∈ rvs → ∀ ti, tiOf P t = some ti → ti.agg = false → ti.size = 1) {avs : List AV} (h2 : retAVs P s rvs = some avs) {cells : List A} (h3 : retForm avs res = some cells)
    (h4 : retCs s cells (res.flatMap RV.cells)) (h5 : (gives cells (res.flatMap RV.cells)).Nodup) (h6 : ∀ p ∈ shows cells (res.flatMap RV.cells), p ∉ gives cells (res.flatMap RV.cells)) : retOk P s rvs res := by
  refine ⟨h1, ?_⟩
  rw [h2]
  simp only [h3]
  exact ⟨h4, h5, h6⟩
theorem retAVs_nil : retAVs P s [] = some [] := rfl
theorem retAVs_tmp (t : Tmp) (rs : List ResultVar) : retAVs P s (.tmp t :: rs) = match some (s.t t), retAVs P s rs with | some x, some xs => some (x :: xs) | _, _ => none := rfl
theorem retAVs_cell (p : Tmp) (t : TypeId) (rs : List ResultVar) : retAVs P s (.cell p t :: rs) = match (match tiOf P t, s.t p with
    | some ti, .one pa => (s.rd ti.size pa).map (mkAV ti.agg)
    | _, _ => none), retAVs P s rs with | some x, some xs => some (x :: xs) | _, _ => none := rfl
theorem retForm_nil : retForm [] [] = some [] := rfl
theorem retForm_one (x : A) (xs : List AV) (r : R) (rs : List RV) : retForm (.one x :: xs) (.one r :: rs) = (retForm xs rs).map (x :: ·) := rfl
theorem retForm_agg (l : List A) (xs : List AV) (k : List R) (rs : List RV) : retForm (.agg l :: xs) (.agg k :: rs) = if l.length = k.length then (retForm xs rs).map (l ++ ·) else none := rfl
theorem gives_map (cs : List C) : ∀ rs : List R, gives (cs.map .c) rs = [] := by
  induction cs with
  | nil => intro rs; rfl
  | cons x xs ih => intro rs; cases rs with
    | nil => rfl
    | cons r rs => exact ih rs
theorem shows_map (cs : List C) : ∀ rs : List R, shows (cs.map .c) rs = [] := by
  induction cs with
  | nil => intro rs; rfl
  | cons x xs ih => intro rs; cases rs with
    | nil => rfl
    | cons r rs => exact ih rs
theorem retCs_map (cs : List C) : retCs s (cs.map .c) (cs.map .c) := by
  induction cs with
  | nil => trivial
  | cons x xs ih => exact ⟨rfl, ih⟩
theorem retC_c (x y : C) : retC s (.c x) (.c y) = (x = y) := rfl
theorem retCs_nil : retCs s [] [] = True := rfl
theorem retCs_cons (x : A) (xs : List A) (r : R) (rs : List R) : retCs s (x :: xs) (r :: rs) = (retC s x r ∧ retCs s xs rs) := rfl
theorem gives_cc (x : C) (xs : List A) (r : R) (rs : List R) : gives (.c x :: xs) (r :: rs) = gives xs rs := by cases r <;> rfl
theorem shows_cc (x : C) (xs : List A) (r : R) (rs : List R) : shows (.c x :: xs) (r :: rs) = shows xs rs := by cases r <;> rfl
theorem gives_nn (xs : List A) (r : R) (rs : List R) : gives (.nil :: xs) (r :: rs) = gives xs rs := by cases r <;> rfl
theorem shows_nn (xs : List A) (r : R) (rs : List R) : shows (.nil :: xs) (r :: rs) = shows xs rs := by cases r <;> rfl
theorem gives_oo (h v : Nat) (xs : List A) (E : TypeId) (sz : Nat) (ys : List (List C)) (rs : List R) : gives (.own h v :: xs) (.own E sz ys :: rs) = (h, v) :: gives xs rs := rfl
theorem gives_oc (h v : Nat) (xs : List A) (y : C) (rs : List R) : gives (.own h v :: xs) (.c y :: rs) = gives xs rs := rfl
theorem shows_oo (h v : Nat) (xs : List A) (E : TypeId) (sz : Nat) (ys : List (List C)) (rs : List R) : shows (.own h v :: xs) (.own E sz ys :: rs) = shows xs rs := rfl
theorem shows_oc (h v : Nat) (xs : List A) (y : C) (rs : List R) : shows (.own h v :: xs) (.c y :: rs) = (h, v) :: shows xs rs := rfl
theorem gives_nil (rs : List R) : gives [] rs = [] := rfl
theorem shows_nil (rs : List R) : shows [] rs = [] := rfl

end
end Go.AV
