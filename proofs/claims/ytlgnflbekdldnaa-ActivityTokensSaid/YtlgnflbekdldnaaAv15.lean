/- Operations of open order: what an operation leaves hangs on what it looks at alone. -/
import Derived.Test.YtlgnflbekdldnaaAv14
set_option linter.unusedVariables false
set_option linter.unusedSimpArgs false
namespace Go.AV
open Go.RowKit

section
variable {B : Nat → Prop} {nt : Nat} {w0 : Base} {w : World} {s s' : AS} {a : Act} {gv : GV} {P : Program} {o : Oper} {K : AS → Prop}

/-- All blocks that there were are there still, and hold what they held. -/
def Agree (s s' : AS) : Prop := ∀ h v, v < s.N h → s'.H h v = s.H h v

theorem rd_congr (ha : Agree s s') {x : A} {v : Value} (hr : RepA B w s gv x v) (n : Nat) : s'.rd n x = s.rd n x := by
  cases hr with
  | ptr hv hx => simp only [AS.rd, ha _ _ hv]
  | eptr hv hx => simp only [AS.rd, ha _ _ hv]
  | @c y _ _ => cases y <;> rfl
  | _ => rfl
theorem len_congr (ha : Agree s s') {x : A} {v : Value} (hr : RepA B w s gv x v) : s'.len x = s.len x := by
  cases hr with
  | own hv hx => simp only [AS.len, ha _ _ hv]
  | @c y _ _ => cases y <;> rfl
  | _ => rfl
theorem tb_congr (ha : Agree s s') {x : A} {v : Value} (hr : RepA B w s gv x v) : s'.tb x = s.tb x := by
  cases hr with
  | own hv hx => simp only [AS.tb, ha _ _ hv]
  | ptr hv hx => simp only [AS.tb, ha _ _ hv]
  | eptr hv hx => simp only [AS.tb, ha _ _ hv]
  | @c y _ _ => cases y <;> rfl
  | _ => rfl
theorem pk_congr (ha : Agree s s') {x : A} {v : Value} (hr : RepA B w s gv x v) : s'.pk x = s.pk x := by
  cases hr with
  | own hv hx => simp only [AS.pk, ha _ _ hv]
  | fn hn hv => rename_i f caps vs; cases caps <;> rfl
  | @c y _ _ => cases y <;> rfl
  | _ => rfl
theorem dst_congr (ha : Agree s s') {x : A} {v : Value} (hr : RepA B w s gv x v) (E sz : Nat) : s'.dst E sz x = s.dst E sz x := by
  cases hr with
  | own hv hx => simp only [AS.dst, ha _ _ hv]
  | @c y _ _ => cases y <;> rfl
  | _ => rfl
theorem src_congr (ha : Agree s s') {x : A} {v : Value} (hr : RepA B w s gv x v) : s'.src x = s.src x := by
  cases hr with
  | own hv hx => simp only [AS.src, ha _ _ hv]
  | @c y _ _ => cases y <;> rfl
  | _ => rfl
theorem mapOf_congr (ha : Agree s s') {x : A} {v : Value} (hr : RepA B w s gv x v) : s'.mapOf x = s.mapOf x := by
  cases hr with
  | own hv hx => simp only [AS.mapOf, ha _ _ hv]
  | @c y _ _ => cases y <;> rfl
  | _ => rfl
theorem ptrOk_congr (ha : Agree s s') {x : A} {v : Value} (hr : RepA B w s gv x v) (k : Nat) : s'.ptrOk k x = s.ptrOk k x := by
  cases hr with
  | ptr hv hx => simp only [AS.ptrOk, ha _ _ hv]
  | eptr hv hx => simp only [AS.ptrOk, ha _ _ hv]
  | @c y _ _ => cases y <;> rfl
  | _ => rfl

theorem all_tb_congr (ha : Agree s s') {xs : List A} {vs : List Value} (hr : RepAs B w s gv xs vs) : xs.all s'.tb = xs.all s.tb := by
  have : ∀ x ∈ xs, s'.tb x = s.tb x := by
    intro x hx
    obtain ⟨m, hm, rfl⟩ := List.getElem_of_mem hx
    have := hr.2 m hm
    rw [getD_lt _ _ _ hm] at this
    exact tb_congr ha this
  rw [Bool.eq_iff_iff, List.all_eq_true, List.all_eq_true]
  exact ⟨fun h x hx => (this x hx) ▸ h x hx, fun h x hx => (this x hx).symm ▸ h x hx⟩

theorem cellsO_congr (ha : Agree s s') {x : AV} {v : Value} (hr : RepAV B w s gv x v) : s'.cellsO x = s.cellsO x := by
  cases hr with
  | one h => simp only [AS.cellsO, tb_congr ha h]
  | agg h => simp only [AS.cellsO, all_tb_congr ha h]
  | _ => rfl

theorem pks_congr (ha : Agree s s') : ∀ {xs : List A} {vs : List Value}, RepAs B w s gv xs vs → s'.pks xs = s.pks xs := by
  intro xs
  induction xs with
  | nil => intro vs _; rfl
  | cons x xs ih =>
    intro vs hr
    cases vs with
    | nil => have := hr.1; simp at this
    | cons v vs =>
      have h0 : RepA B w s gv x v := hr.2 0 (by simp)
      have hrest : RepAs B w s gv xs vs := ⟨by have := hr.1; simpa using this, fun m hm => by simpa using hr.2 (m + 1) (by simpa using hm)⟩
      simp only [AS.pks, pk_congr ha h0, ih hrest]

/-- The cells of a value are represented. -/
theorem cellsO_rep (hs : SimG B nt w0 s a w gv) {x : AV} {v : Value} {cs : List A} (hr : RepAV B w s gv x v) (hc : s.cellsO x = some cs) : RepAs B w s gv cs v.cells.toList := (hs.cells hr (AS.cellsOf_of hc)).1

theorem fill_congr (hs : SimG B nt w0 s a w gv) (ha : Agree s s') (fl : List (Nat × Nat × TypeId)) : ∀ (parts : List (Nat × Operand)) (cells : List A), (∀ p ∈ parts, s'.ev p.2 = s.ev p.2) → s'.fill fl parts cells = s.fill fl parts cells := by
  intro parts
  induction parts with
  | nil => intro cells _; rfl
  | cons p r ih =>
    intro cells h
    obtain ⟨i, x⟩ := p
    have e1 := h (i, x) (by simp)
    simp only at e1
    simp only [AS.fill, e1, cellsO_congr ha (hs.ev x)]
    split
    · split
      · exact ih _ (fun p hp => h p (by simp [hp]))
      · rfl
    · rfl

/-- What 'fill' gives is represented by some values. -/
theorem fill_rep (hs : SimG B nt w0 s a w gv) (fl : List (Nat × Nat × TypeId)) : ∀ (parts : List (Nat × Operand)) (cells out : List A) (vals : List Value), RepAs B w s gv cells vals → s.fill fl parts cells = some out → ∃ vals', RepAs B w s gv out vals' := by
  intro parts
  induction parts with
  | nil => intro cells out vals h ho; simp [AS.fill] at ho; subst ho; exact ⟨vals, h⟩
  | cons p r ih =>
    intro cells out vals h ho
    obtain ⟨i, x⟩ := p
    simp only [AS.fill] at ho
    split at ho
    · rename_i off sz ft cs h1 h2
      split at ho
      · rename_i hc
        exact ih _ _ _ (h.spl (cellsO_rep hs (hs.ev x) h2) off (by omega)) ho
      · cases ho
    · cases ho

theorem view_congr (hs : SimG B nt w0 s a w gv) (ha : Agree s s') : ∀ (n : Nat),
    (∀ (x : A) (v : Value), RepA B w s gv x v → s'.view n x = s.view n x ∧ s'.lent n x = s.lent n x) ∧
    (∀ (xs : List A) (vs : List Value), RepAs B w s gv xs vs → s'.views n xs = s.views n xs ∧ s'.lents n xs = s.lents n xs) := by
  have hlist : ∀ n, (∀ (x : A) (v : Value), RepA B w s gv x v → s'.view n x = s.view n x ∧ s'.lent n x = s.lent n x) →
      (∀ (xs : List A) (vs : List Value), RepAs B w s gv xs vs → s'.views n xs = s.views n xs ∧ s'.lents n xs = s.lents n xs) := by
    intro n h xs
    induction xs with
    | nil => intro vs _; simp [AS.views, AS.lents]
    | cons x xs ih =>
      intro vs hr
      cases vs with
      | nil => have := hr.1; simp at this
      | cons v vs =>
        have h0 : RepA B w s gv x v := hr.2 0 (by simp)
        have hrest : RepAs B w s gv xs vs := ⟨by have := hr.1; simpa using this, fun m hm => by simpa using hr.2 (m + 1) (by simpa using hm)⟩
        obtain ⟨e1, e2⟩ := h x v h0
        obtain ⟨e3, e4⟩ := ih vs hrest
        simp only [AS.views, AS.lents, e1, e2, e3, e4, and_self]
  intro n
  induction n with
  | zero =>
    have hone : ∀ (x : A) (v : Value), RepA B w s gv x v → s'.view 0 x = s.view 0 x ∧ s'.lent 0 x = s.lent 0 x := by
      intro x v hr
      cases hr with
      | own hv hx => simp only [AS.view, AS.lent, ha _ _ hv, and_self]
      | _ => simp [AS.view, AS.lent]
    exact ⟨hone, hlist 0 hone⟩
  | succ n ih =>
    have hone : ∀ (x : A) (v : Value), RepA B w s gv x v → s'.view (n + 1) x = s.view (n + 1) x ∧ s'.lent (n + 1) x = s.lent (n + 1) x := by
      intro x v hr
      cases hr with
      | own hv hx => simp only [AS.view, AS.lent, ha _ _ hv, and_self]
      | @ptr h u off _ hv hx =>
        simp only [AS.view, AS.lent, ha _ _ hv]
        cases hH : s.H h u with
        | none => simp
        | some blk =>
          cases blk with
          | arr => simp
          | frz => simp
          | map => simp
          | box cells =>
            obtain ⟨b, vals, T, hg, hbase, hheap, hrep⟩ := hs.live h u _ hH
            have hd : RepAs B w s gv (cells.drop off) (vals.toList.drop off) := ⟨by have := hrep.1; simp at this ⊢; omega, fun m hm => by
              rw [getD_drop, getD_drop]
              exact hrep.2 _ (by simp at hm; omega)⟩
            obtain ⟨e1, e2⟩ := ih.2 _ _ hd
            simp only [e1, e2, and_self]
      | @fn f caps vs hn hv =>
        have hd : RepAs B w s gv caps vs.toList := ⟨by simpa using hn, fun m hm => by
          have := hv m hm
          have e : vs.toList.getD m Go.undef = vs.getD m Go.undef := by simp [Array.getD_eq_getD_getElem?, List.getD_eq_getElem?_getD]
          rw [e]; exact this⟩
        obtain ⟨e1, e2⟩ := ih.2 _ _ hd
        simp only [AS.view, AS.lent, e1, e2, and_self]
      | _ => simp [AS.view, AS.lent]
    exact ⟨hone, hlist (n + 1) hone⟩

theorem viewV_congr (hs : SimG B nt w0 s a w gv) (ha : Agree s s') {x : AV} {v : Value} (hr : RepAV B w s gv x v) : s'.viewV x = s.viewV x ∧ s'.lentV x = s.lentV x := by
  cases hr with
  | one h => obtain ⟨e1, e2⟩ := (view_congr hs ha 3).1 _ _ h; simp only [AS.viewV, AS.lentV, e1, e2, and_self]
  | agg h => obtain ⟨e1, e2⟩ := (view_congr hs ha 3).2 _ _ h; simp only [AS.viewV, AS.lentV, e1, e2, and_self]
  | _ => exact ⟨rfl, rfl⟩

theorem viewVs_congr (hs : SimG B nt w0 s a w gv) (ha : Agree s s') : ∀ (xs : List Operand), s'.viewVs (xs.map s.ev) = s.viewVs (xs.map s.ev) ∧ s'.lentVs (xs.map s.ev) = s.lentVs (xs.map s.ev) := by
  intro xs
  induction xs with
  | nil => exact ⟨rfl, rfl⟩
  | cons x xs ih =>
    obtain ⟨e1, e2⟩ := viewV_congr hs ha (hs.ev x)
    obtain ⟨e3, e4⟩ := ih
    simp only [List.map_cons, AS.viewVs, AS.lentVs, e1, e2, e3, e4, and_self]

theorem callee_congr (hs : SimG B nt w0 s a w gv) (ha : Agree s s') {x : A} {v : Value} (hr : RepA B w s gv x v) : s'.callee x = s.callee x ∧ s'.lentF x = s.lentF x := by
  cases hr with
  | @fn f caps vs hn hv =>
    have hd : RepAs B w s gv caps vs.toList := ⟨by simpa using hn, fun m hm => by
      have := hv m hm
      have e : vs.toList.getD m Go.undef = vs.getD m Go.undef := by simp [Array.getD_eq_getD_getElem?, List.getD_eq_getElem?_getD]
      rw [e]; exact this⟩
    obtain ⟨e1, e2⟩ := (view_congr hs ha 3).2 _ _ hd
    simp only [AS.callee, AS.lentF, e1, e2, and_self]
  | @c y _ _ => cases y <;> exact ⟨rfl, rfl⟩
  | _ => exact ⟨rfl, rfl⟩

theorem bnd_congr {x : Option Operand} {d : Int} (h : ∀ y, x = some y → s'.ev y = s.ev y) : s'.bnd x d = s.bnd x d := by
  cases x with
  | none => rfl
  | some x => simp only [AS.bnd, h x rfl]

theorem cellsR_congr (rs : List R) : ∀ (base : Nat), (∀ k, k < rs.length → s'.N (base + k) = s.N (base + k)) → s'.cellsR base rs = s.cellsR base rs := by
  induction rs with
  | nil => intro base _; rfl
  | cons r rs ih =>
    intro base h
    have hrest : s'.cellsR (base + 1) rs = s.cellsR (base + 1) rs := ih (base + 1) (fun k hk => by
      have := h (k + 1) (by simp; omega)
      rwa [show base + (k + 1) = base + 1 + k by omega] at this)
    cases r with
    | c x => simp only [AS.cellsR, hrest]
    | own E sz xs =>
      have := h 0 (by simp)
      simp only [Nat.add_zero] at this
      simp only [AS.cellsR, hrest, this]

theorem avR_congr (res : List RV) : ∀ (base : Nat), (∀ k, k < (res.flatMap RV.cells).length → s'.N (base + k) = s.N (base + k)) → s'.avR base res = s.avR base res := by
  induction res with
  | nil => intro base _; rfl
  | cons r res ih =>
    intro base h
    cases r with
    | one r =>
      have hl : (List.flatMap RV.cells (.one r :: res)).length = 1 + (res.flatMap RV.cells).length := by rw [List.flatMap_cons, List.length_append]; rfl
      have h1 := cellsR_congr [r] base (fun k hk => h k (by have hk' : k < 1 := hk; omega))
      have h2 := ih (base + 1) (fun k hk => by
        have := h (k + 1) (by omega)
        rwa [show base + (k + 1) = base + 1 + k by omega] at this)
      simp only [AS.avR, h1, h2]
    | agg l =>
      have hl : (List.flatMap RV.cells (.agg l :: res)).length = l.length + (res.flatMap RV.cells).length := by rw [List.flatMap_cons, List.length_append]; rfl
      have h1 := cellsR_congr l base (fun k hk => h k (by omega))
      have h2 := ih (base + l.length) (fun k hk => by
        have := h (l.length + k) (by omega)
        rwa [show base + (l.length + k) = base + l.length + k by omega] at this)
      simp only [AS.avR, h1, h2]

/-- Blocks of nobody's but the result's are taken up, and there are not too many. -/
def Out.quiet : Out → Prop
  | .val _ => True
  | .make _ _ _ => True
  | .built l _ _ _ => l = []
  | .packed l _ _ _ => l = []
  | .call l _ rs _ => l = [] ∧ rs.length ≤ 900
  | .store _ _ _ _ => False

/-- Does it write what others may read? -/
def isW (o : Oper) : Bool :=
  match o.op with
  | .store _ _ _ => true
  | .call ⟨.builtin .append, _, _⟩ => true
  | .mapUpdate _ _ _ _ => true
  | _ => false

/-- Is it a test against nil? -/
def isNilTest (o : Oper) : Bool :=
  match o.op with
  | .binOp _ _ _ (.const (.slice none 0 0)) _ => true
  | _ => false

/-- What an operation leaves, if it leaves anything of which R holds. -/
theorem aOut_ex (hn : isNilTest o = false) {R : Out → Prop} (h : aOut P o s R) : ∃ out, aOut P o s (· = out) ∧ R out := by
  unfold aOut at h ⊢
  split at h
  · exact ⟨_, rfl, h⟩
  · exact ⟨_, rfl, h⟩
  · split at h
    · exact ⟨_, rfl, h⟩
    · exact h.elim
  · split at h
    · exact ⟨_, ⟨h.1, rfl⟩, h.2⟩
    · exact h.elim
  · obtain ⟨rfl, h⟩ := h
    split at h
    · exact ⟨_, ⟨rfl, rfl⟩, h⟩
    · exact h.elim
  · split at h
    · exact ⟨_, ⟨h.1, h.2.1, rfl⟩, h.2.2⟩
    · split at h
      · exact ⟨_, ⟨h.1, h.2.1, rfl⟩, h.2.2⟩
      · exact h.elim
    · split at h
      · exact ⟨_, ⟨h.1, h.2.1, rfl⟩, h.2.2⟩
      · exact h.elim
    · exact h.elim
  · obtain ⟨hd, h⟩ := h
    split at h
    · split at h
      · exact ⟨_, ⟨hd, h.1, rfl⟩, h.2⟩
      · exact h.elim
    · split at h
      · exact ⟨_, ⟨hd, h.1, rfl⟩, h.2⟩
      · exact h.elim
    · exact h.elim
  · split at h
    · obtain ⟨h1, h⟩ := h
      split at h
      · exact ⟨_, ⟨h1, h.1, h.2.1, rfl⟩, h.2.2⟩
      · exact h.elim
    · exact h.elim
  · split at h
    · obtain ⟨h1, h⟩ := h
      split at h
      · split at h
        · exact ⟨_, ⟨h1, h.1, h.2.1, h.2.2.1, rfl⟩, h.2.2.2⟩
        · exact h.elim
      · exact h.elim
    · exact h.elim
  · split at h
    · split at h
      · split at h
        · split at h
          · exact ⟨_, ⟨h.1, h.2.1, h.2.2.1, rfl⟩, h.2.2.2⟩
          · split at h
            · exact ⟨_, ⟨h.1, h.2.1, h.2.2.1, rfl⟩, h.2.2.2⟩
            · exact h.elim
          · exact h.elim
        · exact h.elim
      · split at h
        · exact ⟨_, ⟨h.1, h.2.1, h.2.2.1, rfl⟩, h.2.2.2⟩
        · exact h.elim
      · exact h.elim
    · exact h.elim
  · split at h
    · exact ⟨_, ⟨h.1, h.2.1, h.2.2.1, rfl⟩, h.2.2.2⟩
    · exact h.elim
  · obtain ⟨rfl, h⟩ := h
    split at h
    · split at h
      · split at h
        · exact ⟨_, ⟨rfl, h.1, h.2.1, h.2.2.1, h.2.2.2.1, rfl⟩, h.2.2.2.2⟩
        · exact h.elim
      · exact h.elim
    · exact h.elim
  · rename_i op t x y t' ho
    split at h
    · split at h
      · exact ⟨_, ⟨h.1, rfl⟩, h.2⟩
      · exact h.elim
    · split at h
      · exact ⟨_, rfl, h⟩
      · exact h.elim
    · split at h
      · obtain ⟨rfl, _⟩ := h
        simp [isNilTest, ho] at hn
      · exact h.elim
    · split at h
      · exact ⟨_, rfl, h⟩
      · exact h.elim
    · exact h.elim
  · split at h
    · exact ⟨_, rfl, h⟩
    · exact ⟨_, rfl, h⟩
    · exact h.elim
  · split at h
    · exact ⟨_, rfl, h⟩
    · exact h.elim
  · split at h
    · exact ⟨_, rfl, h⟩
    · exact h.elim
  · split at h
    · exact ⟨_, rfl, h⟩
    · exact h.elim
  · split at h
    · split at h
      · obtain ⟨h1, h⟩ := h
        split at h
        · exact ⟨_, ⟨h1, rfl⟩, h⟩
        · exact h.elim
      · exact h.elim
    · exact h.elim
  · split at h
    · split at h
      · split at h
        · obtain ⟨h1, h2, h3, h⟩ := h
          split at h
          · split at h
            · exact ⟨_, ⟨h1, h2, h3, rfl⟩, h⟩
            · exact h.elim
          · exact h.elim
        · exact h.elim
      · exact h.elim
    · exact h.elim
  · obtain ⟨x, t, rfl, rfl, h⟩ := h
    split at h
    · rename_i ti p ht hx
      split at h
      · rename_i n hnn
        exact ⟨.val (.one (.c (.int .i64 n))), ⟨x, t, rfl, rfl, by simp only [ht, hx, hnn]; exact ⟨h.1, trivial⟩⟩, h.2⟩
      · exact h.elim
    · exact h.elim
  · obtain ⟨x, y, rfl, h⟩ := h
    split at h
    · rename_i k m k' n hx hy
      exact ⟨.val (.one (.c (.int k (if n < m then n else m)))), ⟨x, y, rfl, by simp only [hx, hy]; exact ⟨h.1, trivial⟩⟩, h.2⟩
    · exact h.elim
  · obtain ⟨x, y, rfl, h⟩ := h
    split at h
    · rename_i k m k' n hx hy
      exact ⟨.val (.one (.c (.int k (if m < n then n else m)))), ⟨x, y, rfl, by simp only [hx, hy]; exact ⟨h.1, trivial⟩⟩, h.2⟩
    · exact h.elim
  · obtain ⟨x, y, t, rfl, rfl, h⟩ := h
    split at h
    · rename_i ti px py ht hx hy
      split at h
      · rename_i E hsh
        split at h
        · rename_i te z he hz
          split at h
          · rename_i xs l ys hdx hsy
            exact ⟨.built l (hnd o.dst) (.arr E te.size (xs ++ ys)) (.one (.own (hnd o.dst) (s.N (hnd o.dst)))), ⟨x, y, t, rfl, rfl, by simp only [ht, hx, hy, hsh, he, hz, hdx, hsy]; exact ⟨h.1, h.2.1, h.2.2.1, h.2.2.2.1, h.2.2.2.2.1, trivial⟩⟩, h.2.2.2.2.2⟩
          · exact h.elim
        · exact h.elim
      · exact h.elim
    · exact h.elim
  · split at h
    · split at h
      · obtain ⟨res, h1, kl, h2, h⟩ := h
        exact ⟨_, ⟨res, h1, kl, h2, rfl⟩, h⟩
      · exact h.elim
    · exact h.elim
  · obtain ⟨out, h1, h2⟩ := h
    exact ⟨out, ⟨out, h1, rfl⟩, h2⟩

end
end Go.AV
