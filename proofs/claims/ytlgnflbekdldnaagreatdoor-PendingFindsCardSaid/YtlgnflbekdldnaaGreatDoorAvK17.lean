/- Texts Av16. -/
import Derived.Test.YtlgnflbekdldnaaGreatDoorAvK16
set_option linter.unusedVariables false
set_option linter.unusedSimpArgs false
set_option linter.unusedSectionVars false
noncomputable section
namespace Go.AV
open Go.RowKit
section
variable {B : Nat → Prop} {nt : Nat} {w0 : Base} {w : World} {s s' : AS} {a : Act} {gv : GV} {P : Program} {o : Oper} {K : AS → Prop} [InvC P B w0]
def Agree (s s' : AS) : Prop := ∀ h v, v < s.N h → s'.H h v = s.H h v
theorem len_congr (ha : Agree s s') {x : A} {v : Value} (hr : RepA B w s gv x v) : s'.len x = s.len x := by
  cases hr with
  | own hv hx => simp only [AS.len, ha _ _ hv]
  | @c y _ _ => cases y <;> rfl
  | _ => rfl
theorem tb_congr (ha : Agree s s') {x : A} {v : Value} (hr : RepA B w s gv x v) : s'.tb x = s.tb x := by
  cases hr with
  | own hv hx => simp only [AS.tb, ha _ _ hv]
  | ptr hv hx => simp only [AS.tb, ha _ _ hv]
  | eptr hv hx => simp only [AS.tb, ha _ _ hv]
  | @c y _ _ => cases y <;> rfl
  | _ => rfl
theorem pk_congr (ha : Agree s s') {x : A} {v : Value} (hr : RepA B w s gv x v) : s'.pk x = s.pk x := by
  cases hr with
  | own hv hx => simp only [AS.pk, ha _ _ hv]
  | fn hn hv => rename_i f caps vs; cases caps <;> rfl
  | @c y _ _ => cases y <;> rfl
  | _ => rfl
theorem dst_congr (ha : Agree s s') {x : A} {v : Value} (hr : RepA B w s gv x v) (E sz : Nat) : s'.dst E sz x = s.dst E sz x := by
  cases hr with
  | own hv hx => simp only [AS.dst, ha _ _ hv]
  | @c y _ _ => cases y <;> rfl
  | _ => rfl
theorem src_congr (ha : Agree s s') {x : A} {v : Value} (hr : RepA B w s gv x v) : s'.src x = s.src x := by
  cases hr with
  | own hv hx => simp only [AS.src, ha _ _ hv]
  | @c y _ _ => cases y <;> rfl
  | _ => rfl
theorem mapOf_congr (ha : Agree s s') {x : A} {v : Value} (hr : RepA B w s gv x v) : s'.mapOf x = s.mapOf x := by
  cases hr with
  | own hv hx => simp only [AS.mapOf, ha _ _ hv]
  | @c y _ _ => cases y <;> rfl
  | _ => rfl
theorem ptrOk_congr (ha : Agree s s') {x : A} {v : Value} (hr : RepA B w s gv x v) (k : Nat) : s'.ptrOk k x = s.ptrOk k x := by
  cases hr with
  | ptr hv hx => simp only [AS.ptrOk, ha _ _ hv]
  | eptr hv hx => simp only [AS.ptrOk, ha _ _ hv]
  | @c y _ _ => cases y <;> rfl
  | _ => rfl
theorem all_tb_congr (ha : Agree s s') {xs : List A} {vs : List Value} (hr : RepAs B w s gv xs vs) : xs.all s'.tb = xs.all s.tb := by
  have : ∀ x ∈ xs, s'.tb x = s.tb x := by
    intro x hx
    obtain ⟨m, hm, rfl⟩ := List.getElem_of_mem hx
    have := hr.2 m hm
    rw [getD_lt _ _ _ hm] at this
    exact tb_congr ha this
  rw [Bool.eq_iff_iff, List.all_eq_true, List.all_eq_true]
  exact ⟨fun h x hx => (this x hx) ▸ h x hx, fun h x hx => (this x hx).symm ▸ h x hx⟩
theorem cellsO_congr (ha : Agree s s') {x : AV} {v : Value} (hr : RepAV B w s gv x v) : s'.cellsO x = s.cellsO x := by
  cases hr with
  | one h => simp only [AS.cellsO, tb_congr ha h]
  | agg h => simp only [AS.cellsO, all_tb_congr ha h]
  | _ => rfl
theorem pks_congr (ha : Agree s s') : ∀ {xs : List A} {vs : List Value}, RepAs B w s gv xs vs → s'.pks xs = s.pks xs := by
  intro xs
  induction xs with
  | nil => intro vs _; rfl
  | cons x xs ih =>
    intro vs hr
    cases vs with
    | nil => have := hr.1; simp at this
    | cons v vs =>
      have h0 : RepA B w s gv x v := hr.2 0 (by simp)
      have hrest : RepAs B w s gv xs vs := ⟨by have := hr.1; simpa using this, fun m hm => by simpa using hr.2 (m + 1) (by simpa using hm)⟩
      simp only [AS.pks, pk_congr ha h0, ih hrest]
theorem cellsO_rep (hs : SimG B nt w0 s a w gv) {x : AV} {v : Value} {cs : List A} (hr : RepAV B w s gv x v) (hc : s.cellsO x = some cs) : RepAs B w s gv cs v.cells.toList := (hs.cells hr (AS.cellsOf_of hc)).1
theorem fill_congr (hs : SimG B nt w0 s a w gv) (ha : Agree s s') (fl : List (Nat × Nat × TypeId)) : ∀ (parts : List (Nat × Operand)) (cells : List A), (∀ p ∈ parts, s'.ev p.2 = s.ev p.2) → s'.fill fl parts cells = s.fill fl parts cells := by
  intro parts
  induction parts with
  | nil => intro cells _; rfl
  | cons p r ih =>
    intro cells h
    obtain ⟨i, x⟩ := p
    have e1 := h (i, x) (by simp)
    simp only at e1
    simp only [AS.fill, e1, cellsO_congr ha (hs.ev x)]
    split
    · split
      · exact ih _ (fun p hp => h p (by simp [hp]))
      · rfl
    · rfl
theorem fill_rep (hs : SimG B nt w0 s a w gv) (fl : List (Nat × Nat × TypeId)) : ∀ (parts : List (Nat × Operand)) (cells out : List A) (vals : List Value), RepAs B w s gv cells vals → s.fill fl parts cells = some out → ∃ vals', RepAs B w s gv out vals' := by
  intro parts
  induction parts with
  | nil => intro cells out vals h ho; simp [AS.fill] at ho; subst ho; exact ⟨vals, h⟩
  | cons p r ih =>
    intro cells out vals h ho
    obtain ⟨i, x⟩ := p
    simp only [AS.fill] at ho
    split at ho
    · rename_i off sz ft cs h1 h2
      split at ho
      · rename_i hc
        exact ih _ _ _ (h.spl (cellsO_rep hs (hs.ev x) h2) off (by omega)) ho
      · cases ho
    · cases ho
theorem view_congr (hs : SimG B nt w0 s a w gv) (ha : Agree s s') : ∀ (n : Nat),
    (∀ (x : A) (v : Value), RepA B w s gv x v → s'.view n x = s.view n x ∧ s'.lent n x = s.lent n x) ∧
    (∀ (xs : List A) (vs : List Value), RepAs B w s gv xs vs → s'.views n xs = s.views n xs ∧ s'.lents n xs = s.lents n xs) := by
  have hlist : ∀ n, (∀ (x : A) (v : Value), RepA B w s gv x v → s'.view n x = s.view n x ∧ s'.lent n x = s.lent n x) →
      (∀ (xs : List A) (vs : List Value), RepAs B w s gv xs vs → s'.views n xs = s.views n xs ∧ s'.lents n xs = s.lents n xs) := by
    intro n h xs
    induction xs with
    | nil => intro vs _; simp [AS.views, AS.lents]
    | cons x xs ih =>
      intro vs hr
      cases vs with
      | nil => have := hr.1; simp at this
      | cons v vs =>
        have h0 : RepA B w s gv x v := hr.2 0 (by simp)
        have hrest : RepAs B w s gv xs vs := ⟨by have := hr.1; simpa using this, fun m hm => by simpa using hr.2 (m + 1) (by simpa using hm)⟩
        obtain ⟨e1, e2⟩ := h x v h0
        obtain ⟨e3, e4⟩ := ih vs hrest
        simp only [AS.views, AS.lents, e1, e2, e3, e4, and_self]
  intro n
  induction n with
  | zero =>
    have hone : ∀ (x : A) (v : Value), RepA B w s gv x v → s'.view 0 x = s.view 0 x ∧ s'.lent 0 x = s.lent 0 x := by
      intro x v hr
      cases hr with
      | own hv hx => simp only [AS.view, AS.lent, ha _ _ hv, and_self]
      | _ => simp [AS.view, AS.lent]
    exact ⟨hone, hlist 0 hone⟩
  | succ n ih =>
    have hone : ∀ (x : A) (v : Value), RepA B w s gv x v → s'.view (n + 1) x = s.view (n + 1) x ∧ s'.lent (n + 1) x = s.lent (n + 1) x := by
      intro x v hr
      cases hr with
      | own hv hx => simp only [AS.view, AS.lent, ha _ _ hv, and_self]
      | @ptr h u off _ hv hx =>
        simp only [AS.view, AS.lent, ha _ _ hv]
        cases hH : s.H h u with
        | none => simp
        | some blk =>
          cases blk with
          | arr => simp
          | frz => simp
          | map => simp
          | iter => simp
          | box cells =>
            obtain ⟨b, vals, T, hg, hbase, hheap, hrep⟩ := hs.live h u _ hH
            have hd : RepAs B w s gv (cells.drop off) (vals.toList.drop off) := ⟨by have := hrep.1; simp at this ⊢; omega, fun m hm => by
              rw [getD_drop, getD_drop]
              exact hrep.2 _ (by simp at hm; omega)⟩
            obtain ⟨e1, e2⟩ := ih.2 _ _ hd
            simp only [e1, e2, and_self]
      | @fn f caps vs hn hv =>
        have hd : RepAs B w s gv caps vs.toList := ⟨by simpa using hn, fun m hm => by
          have := hv m hm
          have e : vs.toList.getD m Go.undef = vs.getD m Go.undef := by simp [Array.getD_eq_getD_getElem?, List.getD_eq_getElem?_getD]
          rw [e]; exact this⟩
        obtain ⟨e1, e2⟩ := ih.2 _ _ hd
        simp only [AS.view, AS.lent, e1, e2, and_self]
      | _ => simp [AS.view, AS.lent]
    exact ⟨hone, hlist (n + 1) hone⟩
theorem viewV_congr (hs : SimG B nt w0 s a w gv) (ha : Agree s s') {x : AV} {v : Value} (hr : RepAV B w s gv x v) : s'.viewV x = s.viewV x ∧ s'.lentV x = s.lentV x := by
  cases hr with
  | one h => obtain ⟨e1, e2⟩ := (view_congr hs ha 3).1 _ _ h; simp only [AS.viewV, AS.lentV, e1, e2, and_self]
  | agg h => obtain ⟨e1, e2⟩ := (view_congr hs ha 3).2 _ _ h; simp only [AS.viewV, AS.lentV, e1, e2, and_self]
  | _ => exact ⟨rfl, rfl⟩
theorem viewVs_congr (hs : SimG B nt w0 s a w gv) (ha : Agree s s') : ∀ (xs : List Operand), s'.viewVs (xs.map s.ev) = s.viewVs (xs.map s.ev) ∧ s'.lentVs (xs.map s.ev) = s.lentVs (xs.map s.ev) := by
  intro xs
  induction xs with
  | nil => exact ⟨rfl, rfl⟩
  | cons x xs ih =>
    obtain ⟨e1, e2⟩ := viewV_congr hs ha (hs.ev x)
    obtain ⟨e3, e4⟩ := ih
    simp only [List.map_cons, AS.viewVs, AS.lentVs, e1, e2, e3, e4, and_self]
theorem callee_congr (hs : SimG B nt w0 s a w gv) (ha : Agree s s') {x : A} {v : Value} (hr : RepA B w s gv x v) : s'.callee x = s.callee x ∧ s'.lentF x = s.lentF x := by
  cases hr with
  | @fn f caps vs hn hv =>
    have hd : RepAs B w s gv caps vs.toList := ⟨by simpa using hn, fun m hm => by
      have := hv m hm
      have e : vs.toList.getD m Go.undef = vs.getD m Go.undef := by simp [Array.getD_eq_getD_getElem?, List.getD_eq_getElem?_getD]
      rw [e]; exact this⟩
    obtain ⟨e1, e2⟩ := (view_congr hs ha 3).2 _ _ hd
    simp only [AS.callee, AS.lentF, e1, e2, and_self]
  | @c y _ _ => cases y <;> exact ⟨rfl, rfl⟩
  | _ => exact ⟨rfl, rfl⟩
theorem bnd_congr {x : Option Operand} {d : Int} (h : ∀ y, x = some y → s'.ev y = s.ev y) : s'.bnd x d = s.bnd x d := by
  cases x with
  | none => rfl
  | some x => simp only [AS.bnd, h x rfl]
theorem cellsR_congr (rs : List R) : ∀ (base : Nat), (∀ k, k < rs.length → s'.N (base + k) = s.N (base + k)) → s'.cellsR base rs = s.cellsR base rs := by
  induction rs with
  | nil => intro base _; rfl
  | cons r rs ih =>
    intro base h
    have hrest : s'.cellsR (base + 1) rs = s.cellsR (base + 1) rs := ih (base + 1) (fun k hk => by
      have := h (k + 1) (by simp; omega)
      rwa [show base + (k + 1) = base + 1 + k by omega] at this)
    cases r with
    | c x => simp only [AS.cellsR, hrest]
    | own E sz xs =>
      have := h 0 (by simp)
      simp only [Nat.add_zero] at this
      simp only [AS.cellsR, hrest, this]
theorem avR_congr (res : List RV) : ∀ (base : Nat), (∀ k, k < (res.flatMap RV.cells).length → s'.N (base + k) = s.N (base + k)) → s'.avR base res = s.avR base res := by
  induction res with
  | nil => intro base _; rfl
  | cons r res ih =>
    intro base h
    cases r with
    | one r =>
      have hl : (List.flatMap RV.cells (.one r :: res)).length = 1 + (res.flatMap RV.cells).length := by rw [List.flatMap_cons, List.length_append]; rfl
      have h1 := cellsR_congr [r] base (fun k hk => h k (by have hk' : k < 1 := hk; omega))
      have h2 := ih (base + 1) (fun k hk => by
        have := h (k + 1) (by omega)
        rwa [show base + (k + 1) = base + 1 + k by omega] at this)
      simp only [AS.avR, h1, h2]
    | agg l =>
      have hl : (List.flatMap RV.cells (.agg l :: res)).length = l.length + (res.flatMap RV.cells).length := by rw [List.flatMap_cons, List.length_append]; rfl
      have h1 := cellsR_congr l base (fun k hk => h k (by omega))
      have h2 := ih (base + l.length) (fun k hk => by
        have := h (l.length + k) (by omega)
        rwa [show base + (l.length + k) = base + l.length + k by omega] at this)
      simp only [AS.avR, h1, h2]
def Out.quiet : Out → Prop
  | .val _ => True
  | .make _ _ _ => True
  | .built l _ _ _ => l = []
  | .packed l _ _ _ => l = []
  | .call l _ rs _ => l = [] ∧ rs.length ≤ 900
  | .store _ _ _ _ => False
def isW (o : Oper) : Bool :=
  match o.op with
  | .store _ _ _ => true
  | .call ⟨.builtin .append, _, _⟩ => true
  | .mapUpdate _ _ _ _ => true
  | _ => false
def isNilTest (o : Oper) : Bool :=
  match o.op with
  | .binOp _ _ _ (.const (.slice none 0 0)) _ => true
  | _ => false
theorem aOut_ex (hn : isNilTest o = false) {R : Out → Prop} (h : aOut P o s R) : ∃ out, aOut P o s (· = out) ∧ R out := by
  unfold aOut at h ⊢
  split at h
  · exact ⟨_, rfl, h⟩
  · exact ⟨_, rfl, h⟩
  · split at h
    · exact ⟨_, rfl, h⟩
    · exact h.elim
  · split at h
    · exact ⟨_, ⟨h.1, rfl⟩, h.2⟩
    · exact h.elim
  · obtain ⟨rfl, h⟩ := h
    split at h
    · exact ⟨_, ⟨rfl, rfl⟩, h⟩
    · exact h.elim
  · split at h
    · exact ⟨_, ⟨h.1, h.2.1, rfl⟩, h.2.2⟩
    · split at h
      · exact ⟨_, ⟨h.1, h.2.1, rfl⟩, h.2.2⟩
      · exact h.elim
    · split at h
      · exact ⟨_, ⟨h.1, h.2.1, rfl⟩, h.2.2⟩
      · exact h.elim
    · exact h.elim
  · obtain ⟨hd, h⟩ := h
    split at h
    · split at h
      · exact ⟨_, ⟨hd, h.1, rfl⟩, h.2⟩
      · exact h.elim
    · split at h
      · exact ⟨_, ⟨hd, h.1, rfl⟩, h.2⟩
      · exact h.elim
    · exact h.elim
  · split at h
    · obtain ⟨h1, h⟩ := h
      split at h
      · exact ⟨_, ⟨h1, h.1, h.2.1, rfl⟩, h.2.2⟩
      · exact h.elim
    · exact h.elim
  · split at h
    · obtain ⟨h1, h⟩ := h
      split at h
      · split at h
        · exact ⟨_, ⟨h1, h.1, h.2.1, h.2.2.1, rfl⟩, h.2.2.2⟩
        · exact h.elim
      · exact h.elim
    · exact h.elim
  · split at h
    · split at h
      · split at h
        · split at h
          · exact ⟨_, ⟨h.1, h.2.1, h.2.2.1, rfl⟩, h.2.2.2⟩
          · split at h
            · exact ⟨_, ⟨h.1, h.2.1, h.2.2.1, rfl⟩, h.2.2.2⟩
            · exact h.elim
          · exact h.elim
        · exact h.elim
      · split at h
        · exact ⟨_, ⟨h.1, h.2.1, h.2.2.1, rfl⟩, h.2.2.2⟩
        · exact h.elim
      · exact h.elim
    · exact h.elim
  · split at h
    · exact ⟨_, ⟨h.1, h.2.1, h.2.2.1, rfl⟩, h.2.2.2⟩
    · exact h.elim
  · obtain ⟨rfl, h⟩ := h
    split at h
    · split at h
      · split at h
        · exact ⟨_, ⟨rfl, h.1, h.2.1, h.2.2.1, h.2.2.2.1, rfl⟩, h.2.2.2.2⟩
        · exact h.elim
      · exact h.elim
    · exact h.elim
  · rename_i op t x y t' ho
    split at h
    · split at h
      · exact ⟨_, ⟨h.1, rfl⟩, h.2⟩
      · exact h.elim
    · split at h
      · exact ⟨_, rfl, h⟩
      · exact h.elim
    · split at h
      · obtain ⟨rfl, _⟩ := h
        simp [isNilTest, ho] at hn
      · exact h.elim
    · split at h
      · exact ⟨_, rfl, h⟩
      · exact h.elim
    · exact h.elim
  · split at h
    · exact ⟨_, rfl, h⟩
    · exact ⟨_, rfl, h⟩
    · exact h.elim
  · split at h
    · exact ⟨_, rfl, h⟩
    · exact h.elim
  · split at h
    · exact ⟨_, rfl, h⟩
    · exact h.elim
  · split at h
    · exact ⟨_, rfl, h⟩
    · exact h.elim
  · split at h
    · split at h
      · obtain ⟨h1, h⟩ := h
        split at h
        · exact ⟨_, ⟨h1, rfl⟩, h⟩
        · exact h.elim
      · exact h.elim
    · exact h.elim
  · split at h
    · split at h
      · split at h
        · obtain ⟨h1, h2, h3, h⟩ := h
          split at h
          · split at h
            · exact ⟨_, ⟨h1, h2, h3, rfl⟩, h⟩
            · exact h.elim
          · exact h.elim
        · exact h.elim
      · exact h.elim
    · exact h.elim
  · obtain ⟨x, t, rfl, rfl, h⟩ := h
    split at h
    · rename_i ti p ht hx
      split at h
      · rename_i n hnn
        exact ⟨.val (.one (.c (.int .i64 n))), ⟨x, t, rfl, rfl, by simp only [ht, hx, hnn]; exact ⟨h.1, trivial⟩⟩, h.2⟩
      · exact h.elim
    · exact h.elim
  · obtain ⟨x, y, rfl, h⟩ := h
    split at h
    · rename_i k m k' n hx hy
      exact ⟨.val (.one (.c (.int k (if n < m then n else m)))), ⟨x, y, rfl, by simp only [hx, hy]; exact ⟨h.1, trivial⟩⟩, h.2⟩
    · exact h.elim
  · obtain ⟨x, y, rfl, h⟩ := h
    split at h
    · rename_i k m k' n hx hy
      exact ⟨.val (.one (.c (.int k (if m < n then n else m)))), ⟨x, y, rfl, by simp only [hx, hy]; exact ⟨h.1, trivial⟩⟩, h.2⟩
    · exact h.elim
  · obtain ⟨x, y, t, rfl, rfl, h⟩ := h
    split at h
    · rename_i ti px py ht hx hy
      split at h
      · rename_i E hsh
        split at h
        · rename_i te z he hz
          split at h
          · rename_i xs l ys hdx hsy
            exact ⟨.built l (hnd o.dst) (.arr E te.size (xs ++ ys)) (.one (.own (hnd o.dst) (s.N (hnd o.dst)))), ⟨x, y, t, rfl, rfl, by simp only [ht, hx, hy, hsh, he, hz, hdx, hsy]; exact ⟨h.1, h.2.1, h.2.2.1, h.2.2.2.1, h.2.2.2.2.1, trivial⟩⟩, h.2.2.2.2.2⟩
          · exact h.elim
        · exact h.elim
      · exact h.elim
    · exact h.elim
  · split at h
    · split at h
      · obtain ⟨res, h1, kl, h2, h⟩ := h
        exact ⟨_, ⟨res, h1, kl, h2, rfl⟩, h⟩
      · exact h.elim
    · exact h.elim
  · obtain ⟨out, h1, h2⟩ := h
    exact ⟨out, ⟨out, h1, rfl⟩, h2⟩
end
end Go.AV
namespace Go.AV
open Go.RowKit
section
variable {B : Nat → Prop} {nt : Nat} {w0 : Base} {w : World} {s s' : AS} {a : Act} {gv : GV} {P : Program} {o : Oper} {K : AS → Prop} [InvC P B w0]
theorem SimG.evA (hs : SimG B nt w0 s a w gv) {x : Operand} {p : A} (hx : s.ev x = .one p) : RepA B w s gv p (a.eval x) := by
  have := hs.ev x
  rw [hx] at this
  cases this with | one h => exact h
theorem SimG.vptr (hs : SimG B nt w0 s a w gv) {x : Operand} {h v off : Nat} (hx : s.ev x = .one (.ptr h v off)) : v < s.N h := by
  cases hs.evA hx with | ptr hv _ => exact hv
theorem SimG.veptr (hs : SimG B nt w0 s a w gv) {x : Operand} {h v sz i j : Nat} (hx : s.ev x = .one (.eptr h v sz i j)) : v < s.N h := by
  cases hs.evA hx with | eptr hv _ => exact hv
theorem SimG.vown (hs : SimG B nt w0 s a w gv) {x : Operand} {h v : Nat} (hx : s.ev x = .one (.own h v)) : v < s.N h := by
  cases hs.evA hx with | own hv _ => exact hv
def Out.small : Out → Prop
  | .call _ _ rs _ => rs.length ≤ 900
  | _ => True
theorem xOut_congr (hs : SimG B nt w0 s a w gv) (ha : Agree s s') (hev : ∀ x ∈ o.op.operands.toList, s'.ev x = s.ev x) (hN0 : s'.N (hnd o.dst) = s.N (hnd o.dst)) (out : Out) : xOut P o s' out ↔ xOut P o s out := by
  unfold xOut
  cases hop : o.op with
  | makeMap t r => rw [hN0]
  | lookup t x ix ok =>
    have e := hev x (by simp [hop, Op.operands])
    have e2 := hev ix (by simp [hop, Op.operands])
    simp only [e, e2]
    cases ht : tiOf P t with
    | none => simp
    | some ti =>
    have hpk : ∀ z : Value, s'.pks (z.cells.toList.map constA) = s.pks (z.cells.toList.map constA) := fun z => pks_congr ha (constAs_ok B w s gv z.cells.toList)
    cases hi : s.ev ix with
    | one q =>
      cases q with
      | c y =>
        cases y with
        | str k =>
          cases hx : s.ev x with
          | one p => simp only [mapOf_congr ha (hs.evA hx), hpk]
          | _ => simp
        | _ => cases s.ev x <;> simp
      | _ => cases s.ev x <;> simp
    | _ => cases s.ev x <;> simp
  | mapUpdate t m ix x =>
    have e := hev m (by simp [hop, Op.operands])
    have e2 := hev ix (by simp [hop, Op.operands])
    have e3 := hev x (by simp [hop, Op.operands])
    simp only [e, e2, e3, cellsO_congr ha (hs.ev x)]
    cases ht : tiOf P t with
    | none => simp
    | some ti =>
    cases hc : s.cellsO (s.ev x) with
    | none => cases s.ev m with
      | one pa =>
        cases pa with
        | own => cases s.ev ix with
          | one q => cases q with
            | c y => cases y <;> simp
            | _ => simp
          | _ => simp
        | _ => simp
      | _ => simp
    | some cs =>
      have hpk := pks_congr ha (cellsO_rep hs (hs.ev x) hc)
      cases hi : s.ev ix with
      | one q =>
        cases q with
        | c y =>
          cases y with
          | str k =>
            cases hm : s.ev m with
            | one pa =>
              cases pa with
              | own h v => simp only [ha h v (hs.vown hm), hpk]
              | _ => simp
            | _ => simp
          | _ => cases s.ev m with
            | one pa => cases pa <;> simp
            | _ => simp
        | _ => cases s.ev m with
          | one pa => cases pa <;> simp
          | _ => simp
      | _ => cases s.ev m with
        | one pa => cases pa <;> simp
        | _ => simp
  | nilCheck x =>
    have e := hev x (by simp [hop, Op.operands])
    simp only [e]
    cases hx : s.ev x with
    | one pa =>
      cases pa with
      | ptr h v off => simp only [AS.ptrOk, ha h v (hs.vptr hx)]
      | eptr h v sz i j => simp only [AS.ptrOk, ha h v (hs.veptr hx)]
      | c y => cases y <;> exact Iff.rfl
      | _ => exact Iff.rfl
    | _ => exact Iff.rfl
  | makeSlice t l c =>
    have e := hev l (by simp [hop, Op.operands])
    have e2 := hev c (by simp [hop, Op.operands])
    have hpk : ∀ z : Value, s'.pks (z.cells.toList.map constA) = s.pks (z.cells.toList.map constA) := fun z => pks_congr ha (constAs_ok B w s gv z.cells.toList)
    simp only [e, e2, hpk, hN0]
  | _ => exact Iff.rfl
theorem aOut_congr (hs : SimG B nt w0 s a w gv) (ha : Agree s s') (hev : ∀ x ∈ o.op.operands.toList, s'.ev x = s.ev x) (hN : ∀ k, k ≤ 900 → s'.N (hnd o.dst + k) = s.N (hnd o.dst + k)) (out : Out) (hsm : out.small) :
    aOut P o s' (· = out) ↔ aOut P o s (· = out) := by
  have hN0 : s'.N (hnd o.dst) = s.N (hnd o.dst) := hN 0 (by omega)
  unfold aOut
  cases hop : o.op with
  | move x => simp only [hev x (by simp [hop, Op.operands])]
  | assign x => simp only [hev x (by simp [hop, Op.operands])]
  | pick c x y => simp only [hev c (by simp [hop, Op.operands]), hev x (by simp [hop, Op.operands]), hev y (by simp [hop, Op.operands])]
  | extract x i => simp only [hev x (by simp [hop, Op.operands])]
  | makeFunc fn first caps =>
    cases fn with
    | func f =>
      have : caps.toList.map s'.ev = caps.toList.map s.ev := List.map_congr_left (fun x hx => hev x (by simp [hop, Op.operands]; right; simpa using hx))
      simp only [this]
    | _ => exact exists_congr fun out' => and_congr_left fun _ => xOut_congr hs ha hev hN0 out'
  | load t p =>
    have e := hev p (by simp [hop, Op.operands])
    simp only [e]
    cases ht : tiOf P t with
    | none => simp
    | some ti =>
    cases hp : s.ev p with
    | one pa =>
      cases pa with
      | ptr h v off => simp only [ha h v (hs.vptr hp)]
      | eptr h v sz i j => simp only [ha h v (hs.veptr hp)]
      | c x => cases x <;> simp
      | _ => simp
    | _ => simp
  | store t p x =>
    have e := hev p (by simp [hop, Op.operands])
    have e2 := hev x (by simp [hop, Op.operands])
    simp only [e, e2, cellsO_congr ha (hs.ev x)]
    cases ht : tiOf P t with
    | none => simp
    | some ti =>
    cases hc : s.cellsO (s.ev x) with
    | none => cases s.ev p with
      | one pa => cases pa <;> simp
      | _ => simp
    | some cs =>
    cases hp : s.ev p with
    | one pa =>
      cases pa with
      | ptr h v off => simp only [ha h v (hs.vptr hp)]
      | eptr h v sz i j => simp only [ha h v (hs.veptr hp), pks_congr ha (cellsO_rep hs (hs.ev x) hc)]
      | c y => cases y <;> simp
      | _ => simp
    | _ => simp
  | fieldAddr t p f =>
    have e := hev p (by simp [hop, Op.operands])
    simp only [e]
    cases ht : tiOf P t with
    | none => simp
    | some ti =>
    cases hp : s.ev p with
    | one pa => simp only [ptrOk_congr ha (hs.evA hp)]
    | _ => simp
  | field t p f => simp only [hev p (by simp [hop, Op.operands])]
  | indexAddr t x ix =>
    have e := hev x (by simp [hop, Op.operands])
    have e2 := hev ix (by simp [hop, Op.operands])
    simp only [e, e2]
    cases ht : tiOf P t with
    | none => simp
    | some ti =>
    cases hi : s.ev ix with
    | one ia =>
      cases hx : s.ev x with
      | one pa =>
        cases ia with
        | c ic =>
          cases ic with
          | int k i =>
            simp only [ptrOk_congr ha (hs.evA hx)]
            cases pa with
            | own h v => simp only [ha h v (hs.vown hx)]
            | c y => cases ti.sh with
              | slice e => cases y <;> (cases hte : tiOf P e <;> simp [hte])
              | _ => simp
            | _ => cases ti.sh with
              | slice e => cases tiOf P e <;> simp
              | _ => simp
          | _ => simp
        | _ => simp
      | _ => simp
    | _ => cases s.ev x <;> simp
  | index t x ix => simp only [hev x (by simp [hop, Op.operands]), hev ix (by simp [hop, Op.operands])]
  | slice t x lw hg mx =>
    have e := hev x (by simp [hop, Op.operands])
    have e1 : ∀ d, s'.bnd lw d = s.bnd lw d := fun d => bnd_congr (fun y hy => hev y (by subst hy; simp [hop, Op.operands]))
    have e2 : ∀ d, s'.bnd hg d = s.bnd hg d := fun d => bnd_congr (fun y hy => hev y (by subst hy; simp [hop, Op.operands]))
    simp only [e, e1, e2]
  | binOp op t x y t' => simp only [hev x (by simp [hop, Op.operands]), hev y (by simp [hop, Op.operands])]
  | unOp op t x => simp only [hev x (by simp [hop, Op.operands])]
  | convert t u x => simp only [hev x (by simp [hop, Op.operands])]
  | alloc t => simp only [hN0]
  | box t x =>
    have e := hev x (by simp [hop, Op.operands])
    simp only [e, cellsO_congr ha (hs.ev x), hN0]
  | build t parts =>
    have e : ∀ fl cells, s'.fill fl parts.toList cells = s.fill fl parts.toList cells := fun fl cells => fill_congr hs ha fl parts.toList cells (fun p hp => hev p.2 (by simp only [hop, Op.operands]; exact List.mem_map.2 ⟨p, hp, rfl⟩))
    simp only [e]
  | buildSlice t n parts =>
    have e : ∀ fl cells, s'.fill fl parts.toList cells = s.fill fl parts.toList cells := fun fl cells => fill_congr hs ha fl parts.toList cells (fun p hp => hev p.2 (by simp only [hop, Op.operands]; exact List.mem_map.2 ⟨p, hp, rfl⟩))
    simp only [e, hN0]
    cases ht : tiOf P t with
    | none => simp
    | some ti =>
      simp only
      cases hsh : ti.sh with
      | slice E =>
        simp only
        cases he : tiOf P E with
        | none => simp
        | some te =>
          simp only
          cases hf : s.fill (places te.size E n 0) parts.toList (List.replicate (n * te.size) .any) with
          | none => simp
          | some out' =>
            obtain ⟨vals, hv⟩ := fill_rep hs _ _ _ _ (List.replicate (n * te.size) Go.undef) (RepAs.any _ _ (by simp)) hf
            simp only [pks_congr ha hv]
      | _ => simp [hsh]
  | call c =>
    obtain ⟨callee, args, ts⟩ := c
    cases callee with
    | value fo =>
      have e := hev fo (by simp [hop, Op.operands, Call.operands])
      have e1 : args.toList.map s'.ev = args.toList.map s.ev := List.map_congr_left (fun x hx => hev x (by simp [hop, Op.operands, Call.operands]; right; simpa using hx))
      obtain ⟨e2, e3⟩ := viewVs_congr hs ha args.toList
      simp only [e, e1, e2, e3]
      cases hfo : s.ev fo with
      | one fa =>
        obtain ⟨e4, e5⟩ := callee_congr hs ha (hs.evA hfo)
        cases s.viewVs (args.toList.map s.ev) with
        | none => simp
        | some ds =>
          simp only [e4, e5]
          cases s.callee fa with
          | none => simp
          | some fc =>
            obtain ⟨f, caps⟩ := fc
            simp only
            have hav : ∀ (res : List RV) (kl : List (Nat × Nat)), (res.flatMap RV.cells).length ≤ 900 → (s'.frzs kl).avR (hnd o.dst) res = (s.frzs kl).avR (hnd o.dst) res := fun res kl hl =>
              avR_congr res _ (fun k hk => by rw [frzs_N, frzs_N]; exact hN k (by omega))
            constructor
            · rintro ⟨res, h1, kl, h2, h3⟩
              refine ⟨res, h1, kl, h2, ?_⟩
              rw [← h3] at hsm
              rw [← hav res kl hsm]; exact h3
            · rintro ⟨res, h1, kl, h2, h3⟩
              refine ⟨res, h1, kl, h2, ?_⟩
              rw [← h3] at hsm
              rw [hav res kl hsm]; exact h3
      | _ => simp
    | invoke r m => exact exists_congr fun out' => and_congr_left fun _ => xOut_congr hs ha hev hN0 out'
    | builtin b =>
      have hargs : ∀ x ∈ args.toList, s'.ev x = s.ev x := fun x hx => hev x (by simp [hop, Op.operands, Call.operands]; simpa using hx)
      cases b with
      | len =>
        simp only
        constructor
        · rintro ⟨x, t, rfl, rfl, h⟩
          refine ⟨x, t, rfl, rfl, ?_⟩
          rw [hargs x (by simp)] at h
          revert h
          cases tiOf P t with
          | none => simp
          | some ti =>
          cases hx : s.ev x with
          | one p => simp only [len_congr ha (hs.evA hx)]; exact id
          | _ => simp
        · rintro ⟨x, t, rfl, rfl, h⟩
          refine ⟨x, t, rfl, rfl, ?_⟩
          rw [hargs x (by simp)]
          revert h
          cases tiOf P t with
          | none => simp
          | some ti =>
          cases hx : s.ev x with
          | one p => simp only [len_congr ha (hs.evA hx)]; exact id
          | _ => simp
      | min =>
        simp only
        constructor
        · rintro ⟨x, y, rfl, h⟩
          exact ⟨x, y, rfl, by rw [hargs x (by simp), hargs y (by simp)] at h; exact h⟩
        · rintro ⟨x, y, rfl, h⟩
          exact ⟨x, y, rfl, by rw [hargs x (by simp), hargs y (by simp)]; exact h⟩
      | max =>
        simp only
        constructor
        · rintro ⟨x, y, rfl, h⟩
          exact ⟨x, y, rfl, by rw [hargs x (by simp), hargs y (by simp)] at h; exact h⟩
        · rintro ⟨x, y, rfl, h⟩
          exact ⟨x, y, rfl, by rw [hargs x (by simp), hargs y (by simp)]; exact h⟩
      | append =>
        simp only
        constructor
        · rintro ⟨x, y, t, rfl, rfl, h⟩
          refine ⟨x, y, t, rfl, rfl, ?_⟩
          rw [hargs x (by simp), hargs y (by simp)] at h
          revert h
          cases tiOf P t with
          | none => simp
          | some ti =>
          cases hx : s.ev x with
          | one p =>
            cases hy : s.ev y with
            | one q =>
              simp only
              cases ti.sh with
              | slice E =>
                simp only
                cases tiOf P E with
                | none => simp
                | some te =>
                  cases zeroOf P E with
                  | none => simp
                  | some z => simp only [dst_congr ha (hs.evA hx), src_congr ha (hs.evA hy), hN0]; exact id
              | _ => simp
            | _ => simp
          | _ => simp
        · rintro ⟨x, y, t, rfl, rfl, h⟩
          refine ⟨x, y, t, rfl, rfl, ?_⟩
          rw [hargs x (by simp), hargs y (by simp)]
          revert h
          cases tiOf P t with
          | none => simp
          | some ti =>
          cases hx : s.ev x with
          | one p =>
            cases hy : s.ev y with
            | one q =>
              simp only
              cases ti.sh with
              | slice E =>
                simp only
                cases tiOf P E with
                | none => simp
                | some te =>
                  cases zeroOf P E with
                  | none => simp
                  | some z => simp only [dst_congr ha (hs.evA hx), src_congr ha (hs.evA hy), hN0]; exact id
              | _ => simp
            | _ => simp
          | _ => simp
      | _ => exact exists_congr fun out' => and_congr_left fun _ => xOut_congr hs ha hev hN0 out'
  | _ => exact exists_congr fun out' => and_congr_left fun _ => xOut_congr hs ha hev hN0 out'
end
end Go.AV
end
