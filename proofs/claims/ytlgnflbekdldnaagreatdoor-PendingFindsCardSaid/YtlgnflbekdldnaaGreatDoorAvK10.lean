/- Texts Av10. -/
import Derived.Test.YtlgnflbekdldnaaGreatDoorAvK9
set_option linter.unusedVariables false
set_option linter.unusedSimpArgs false
set_option linter.unusedSectionVars false
noncomputable section
namespace Go.AV
open Go.RowKit
section
variable {B : Nat → Prop} {nt : Nat} {w0 : Base} {w : World} {s : AS} {a : Act} {gv : GV} {P : Program} {o : Oper} {K : AS → Prop}
mutual
/-- A cell asx it is handed to a callee: what is the frame's own is lent. -/
def AS.view (s : AS) : Nat → A → Option C
  | _, .c x => some x
  | _, .nil => some (.sl [])
  | _, .own h v => match s.H h v with
    | some (.arr _ _ xs) => some (.sl xs)
    | some (.frz c) => some c
    | some (.map agg ks vs) => some (.map agg ks vs)
    | _ => none
  | n + 1, .ptr h v off => match s.H h v with
    | some (.box cells) => if off ≤ cells.length then (s.views n (cells.drop off)).map .ptr else none
    | _ => none
  | n + 1, .fn f caps => (s.views n caps).map (.fn f)
  | _, _ => none
def AS.views (s : AS) : Nat → List A → Option (List C)
  | _, [] => some []
  | n, x :: xs => match s.view n x, s.views n xs with
    | some y, some ys => some (y :: ys)
    | _, _ => none
end
mutual
/-- The blocks that a cell leads to. -/
def AS.lent (s : AS) : Nat → A → List (Nat × Nat)
  | _, .own h v => [(h, v)]
  | n + 1, .ptr h v off => match s.H h v with
    | some (.box cells) => (h, v) :: s.lents n (cells.drop off)
    | _ => []
  | n + 1, .fn f caps => s.lents n caps
  | _, _ => []
def AS.lents (s : AS) : Nat → List A → List (Nat × Nat)
  | _, [] => []
  | n, x :: xs => s.lent n x ++ s.lents n xs
end
def lentOk (B : Nat → Prop) (s : AS) (gv : GV) (l : List (Nat × Nat)) (b : Nat) : Prop := B b ∧ ∀ h v, Ow (s.H h v) → (h, v) ∉ l → blkOf (gv h v) ≠ some b
theorem lentOk_of {l : List (Nat × Nat)} {b : Nat} (h : okb B s gv b) : lentOk B s gv l b := ⟨h.1, fun i v hi _ => h.2 i v hi⟩
theorem lentOk_frzs {l : List (Nat × Nat)} {b : Nat} (h : lentOk B s gv l b) : okb B (s.frzs l) gv b := by
  refine ⟨h.1, fun i v hi => ?_⟩
  rw [frzs_H] at hi
  by_cases hm : (i, v) ∈ l
  · rw [if_pos hm] at hi; exact absurd hi (frzB_ow _)
  · rw [if_neg hm] at hi; exact h.2 i v hi hm
theorem SimG.view_aux (hs : SimG B nt w0 s a w gv) (l : List (Nat × Nat)) : ∀ (n : Nat),
    (∀ (x : A) (v : Value) (y : C), RepA B w s gv x v → s.view n x = some y → (∀ p ∈ s.lent n x, p ∈ l) → RepC w (lentOk B s gv l) y v) ∧
    (∀ (xs : List A) (ys : List C), s.views n xs = some ys → ys.length = xs.length ∧ ∀ m, m < xs.length → s.view n (xs.getD m .any) = some (ys.getD m .junk) ∧ ∀ p ∈ s.lent n (xs.getD m .any), p ∈ s.lents n xs) := by
  have hviews : ∀ (n : Nat) (xs : List A) (ys : List C), s.views n xs = some ys → ys.length = xs.length ∧ ∀ m, m < xs.length → s.view n (xs.getD m .any) = some (ys.getD m .junk) ∧ ∀ p ∈ s.lent n (xs.getD m .any), p ∈ s.lents n xs := by
    intro n xs
    induction xs with
    | nil => intro ys h; simp [AS.views] at h; subst h; exact ⟨rfl, fun m hm => by simp at hm⟩
    | cons x xs ih =>
      intro ys h
      simp only [AS.views] at h
      split at h
      · rename_i y ys' h1 h2
        cases h
        obtain ⟨e1, e2⟩ := ih ys' h2
        refine ⟨by simp [e1], fun m hm => ?_⟩
        cases m with
        | zero => exact ⟨h1, fun p hp => by simp only [AS.lents]; exact List.mem_append_left _ hp⟩
        | succ m =>
          obtain ⟨q1, q2⟩ := e2 m (by simpa using hm)
          exact ⟨by simpa using q1, fun p hp => by simp only [AS.lents]; exact List.mem_append_right _ (q2 p (by simpa using hp))⟩
      · cases h
  have hown : ∀ (h u : Nat) (v : Value) (y : C), RepA B w s gv (.own h u) v → (match s.H h u with | some (.arr _ _ xs) => some (C.sl xs) | some (.frz c) => some c | some (.map agg ks vs) => some (C.map agg ks vs) | _ => none) = some y → (h, u) ∈ l → RepC w (lentOk B s gv l) y v := by
    intro h u v y hr hy hm
    split at hy
    · rename_i E sz xs hH
      cases hy
      cases hr with
      | own hv hx =>
        have := hx (by rw [hH]; simp)
        subst this
        obtain ⟨vals, hsz, hrow, hfr, hcs⟩ := hs.live h u _ hH
        refine RepCs.sl hsz hrow (hcs.mono (fun b _ hb => lentOk_of hb) (Nat.le_refl _) (fun _ _ _ => rfl)) (fun b hb => ⟨hs.above b (hfr b hb), fun j t hj hn hb' => ?_⟩)
        obtain ⟨rfl, rfl⟩ := hs.inj h u j t b (by rw [hH]; trivial) hj hb hb'
        exact hn hm
    · rename_i xs hH
      cases hy
      cases hr with
      | own hv hx =>
        have := hx (by rw [hH]; simp)
        subst this
        exact RepC.mono (hs.live h u _ hH) (fun b _ hb => lentOk_of hb) (Nat.le_refl _) (fun _ _ _ => rfl)
    · rename_i agg ks vs hH
      cases hy
      cases hr with
      | own hv hx =>
        have := hx (by rw [hH]; simp)
        subst this
        obtain ⟨b, ents, clock, vals, hg, h1, h2, h8⟩ := hs.live h u _ hH
        rw [hg]
        refine .map agg ks vs b ents clock vals ⟨hs.above b h1, fun j t hj hn hb' => ?_⟩ (Array.getElem?_eq_some_iff.1 h2.at_).1 h2 (fun i j hi hj => (h8 i j hi hj).mono (fun b _ hb => lentOk_of hb) (Nat.le_refl _) (fun _ _ _ => rfl))
        obtain ⟨rfl, rfl⟩ := hs.inj h u j t b (by rw [hH]; trivial) hj (by rw [hg]; rfl) hb'
        exact hn hm
    · cases hy
  intro n
  induction n with
  | zero =>
    refine ⟨fun x v y hr hy hl => ?_, hviews 0⟩
    cases x with
    | c z => simp [AS.view] at hy; subst hy; cases hr with | c h => exact h.mono (fun b _ hb => lentOk_of hb) (Nat.le_refl _) (fun _ _ _ => rfl)
    | nil => simp [AS.view] at hy; subst hy; cases hr; exact .nil
    | own h u => simp only [AS.view] at hy; exact hown h u v y hr hy (hl _ (by simp [AS.lent]))
    | _ => simp [AS.view] at hy
  | succ n ih =>
    refine ⟨fun x v y hr hy hl => ?_, hviews (n + 1)⟩
    cases x with
    | c z => simp [AS.view] at hy; subst hy; cases hr with | c h => exact h.mono (fun b _ hb => lentOk_of hb) (Nat.le_refl _) (fun _ _ _ => rfl)
    | nil => simp [AS.view] at hy; subst hy; cases hr; exact .nil
    | own h u => simp only [AS.view] at hy; exact hown h u v y hr hy (hl _ (by simp [AS.lent]))
    | ptr h u off =>
      simp only [AS.view] at hy
      split at hy
      · rename_i cells hH
        split at hy
        · rename_i hoff
          simp only [Option.map_eq_some_iff] at hy
          obtain ⟨ys, hys, rfl⟩ := hy
          obtain ⟨e1, e2⟩ := ih.2 _ _ hys
          cases hr with
          | ptr hv hx =>
            obtain ⟨b, hb, rfl⟩ := hx (by rw [hH]; simp)
            obtain ⟨b', vals, T, hg, hbase, hheap, hrep⟩ := hs.live h u _ hH
            obtain rfl : b' = b := by rw [hg] at hb; simpa [blkOf] using hb
            have hvl : vals.size = cells.length := by have := hrep.1; simpa using this
            have hlent : ∀ p ∈ (h, u) :: s.lents n (cells.drop off), p ∈ l := by
              intro p hp
              refine hl p ?_
              simp only [AS.lent, hH]
              exact hp
            refine .ptr ys b' off (fun m => vals.toList.getD (off + m) Go.undef) ⟨hs.above b' hbase, fun j t hj hn hb' => ?_⟩ (Array.getElem?_eq_some_iff.1 hheap).1 (fun m hm => ?_) (fun m hm => ?_)
            · obtain ⟨rfl, rfl⟩ := hs.inj h u j t b' (by rw [hH]; trivial) hj hb hb'
              exact hn (hlent _ (by simp))
            · rw [e1, List.length_drop] at hm
              rw [cell_of_row w b' _ vals T (0, 0) hheap, getD_lt _ _ _ (by simp; omega)]
              simp
            · rw [e1] at hm
              obtain ⟨q1, q2⟩ := e2 m hm
              rw [List.length_drop] at hm
              rw [getD_drop] at q1 q2
              exact ih.1 _ _ _ (hrep.2 (off + m) (by omega)) q1 (fun p hp => hlent p (List.mem_cons_of_mem _ (q2 p hp)))
        · cases hy
      · cases hy
    | fn f caps =>
      simp only [AS.view, Option.map_eq_some_iff] at hy
      obtain ⟨ys, hys, rfl⟩ := hy
      obtain ⟨e1, e2⟩ := ih.2 _ _ hys
      cases hr with
      | @fn _ _ vs hn hv =>
        refine .fn f ys vs (by rw [hn, e1]) (fun m hm => ?_)
        rw [e1] at hm
        obtain ⟨q1, q2⟩ := e2 m hm
        refine ih.1 _ _ _ (hv m hm) q1 (fun p hp => hl p ?_)
        simp only [AS.lent]
        exact q2 p hp
    | eptr h u sz i j => simp [AS.view] at hy
    | any => simp [AS.view] at hy
def AS.viewV (s : AS) : AV → Option DV
  | .one x => (s.view 3 x).map .one
  | .agg asx => (s.views 3 asx).map .agg
  | _ => none
def AS.lentV (s : AS) : AV → List (Nat × Nat)
  | .one x => s.lent 3 x
  | .agg asx => s.lents 3 asx
  | _ => []
theorem SimG.viewV (hs : SimG B nt w0 s a w gv) (l : List (Nat × Nat)) {x : AV} {v : Value} {d : DV} (hr : RepAV B w s gv x v) (hd : s.viewV x = some d) (hl : ∀ p ∈ s.lentV x, p ∈ l) : RepDV w (lentOk B s gv l) d v := by
  cases hr with
  | one h =>
    simp only [AS.viewV, Option.map_eq_some_iff] at hd
    obtain ⟨y, hy, rfl⟩ := hd
    exact (hs.view_aux l 3).1 _ _ _ h hy hl
  | @agg asx vs h =>
    simp only [AS.viewV, Option.map_eq_some_iff] at hd
    obtain ⟨ys, hys, rfl⟩ := hd
    obtain ⟨e1, e2⟩ := (hs.view_aux l 3).2 _ _ hys
    refine ⟨vs, rfl, by rw [e1]; exact h.1, fun m hm => ?_⟩
    rw [e1] at hm
    obtain ⟨q1, q2⟩ := e2 m hm
    exact (hs.view_aux l 3).1 _ _ _ (h.2 m hm) q1 (fun p hp => hl p (q2 p hp))
  | _ => simp [AS.viewV] at hd
def AS.viewVs (s : AS) : List AV → Option (List DV)
  | [] => some []
  | x :: xs => match s.viewV x, s.viewVs xs with
    | some y, some ys => some (y :: ys)
    | _, _ => none
def AS.lentVs (s : AS) : List AV → List (Nat × Nat)
  | [] => []
  | x :: xs => s.lentV x ++ s.lentVs xs
theorem SimG.viewVs (hs : SimG B nt w0 s a w gv) (l : List (Nat × Nat)) : ∀ (xs : List AV) (vs : List Value) (ds : List DV), vs.length = xs.length → (∀ m, m < xs.length → RepAV B w s gv (xs.getD m .undef) (vs.getD m Go.undef)) →
    s.viewVs xs = some ds → (∀ p ∈ s.lentVs xs, p ∈ l) → RepDVs w (lentOk B s gv l) ds vs := by
  intro xs
  induction xs with
  | nil => intro vs ds hn hr hd hl; simp [AS.viewVs] at hd; subst hd; exact ⟨hn, fun m hm => by simp at hm⟩
  | cons x xs ih =>
    intro vs ds hn hr hd hl
    simp only [AS.viewVs] at hd
    split at hd
    · rename_i y ys h1 h2
      cases hd
      cases vs with
      | nil => simp at hn
      | cons v vs =>
        obtain ⟨q1, q2⟩ := ih vs ys (by simpa using hn) (fun m hm => by simpa using hr (m + 1) (by simpa using hm)) h2 (fun p hp => hl p (by simp only [AS.lentVs]; exact List.mem_append_right _ hp))
        refine ⟨by simp [q1], fun m hm => ?_⟩
        cases m with
        | zero => exact hs.viewV l (hr 0 (by simp)) h1 (fun p hp => hl p (by simp only [AS.lentVs]; exact List.mem_append_left _ hp))
        | succ m => simpa using q2 m (by simpa using hm)
    · cases hd
def AS.take (s : AS) (base : Nat) : List R → AS
  | [] => s
  | .c _ :: rs => s.take (base + 1) rs
  | .own E sz xs :: rs => (s.new base (.arr E sz xs)).take (base + 1) rs
def AS.cellsR (s : AS) (base : Nat) : List R → List A
  | [] => []
  | .c x :: rs => .c x :: s.cellsR (base + 1) rs
  | .own _ _ _ :: rs => .own base (s.N base) :: s.cellsR (base + 1) rs
def AS.avR (s : AS) (base : Nat) : List RV → List AV
  | [] => []
  | .one r :: rs => .one ((s.cellsR base [r]).getD 0 .any) :: s.avR (base + 1) rs
  | .agg l :: rs => .agg (s.cellsR base l) :: s.avR (base + l.length) rs
def packAV : List AV → AV
  | [x] => x
  | xs => .tup xs
def newOf (base : Nat) (rs : List R) (vs : List Value) (i : Nat) : Option (Blk × Value) :=
  if base ≤ i ∧ i < base + rs.length then
    match rs.getD (i - base) (.c .junk) with
    | .own E sz xs => some (.arr E sz xs, vs.getD (i - base) Go.undef)
    | .c _ => none
  else none
def AS.newF (s : AS) (F : Nat → Option (Blk × Value)) : AS :=
  { s with H := fun i v => if v = s.N i then (match F i with | some (b, _) => some b | none => s.H i v) else s.H i v, N := fun i => if (F i).isSome then s.N i + 1 else s.N i }
theorem SimG.newF {w' : World} (h : SimG B nt w0 s a w gv) (hb : Below w.heap.size w w') (F : Nat → Option (Blk × Value))
    (hfresh : ∀ i blk g, F i = some (blk, g) → ∀ b, blkOf g = some b → w.heap.size ≤ b)
    (hinj : ∀ i j blk g blk' g' b, F i = some (blk, g) → F j = some (blk', g') → blkOf g = some b → blkOf g' = some b → i = j)
    (hrep : ∀ s' gv', s' = s.newF F → Keep B w s gv w' s' gv' → (∀ b, okb B s gv b → (∀ i blk g, F i = some (blk, g) → blkOf g ≠ some b) → okb B s' gv' b) → ∀ i blk g, F i = some (blk, g) → RepB B w0 w' s' gv' g blk) :
    ∃ gv', SimG B nt w0 (s.newF F) a w' gv' ∧ Keep B w s gv w' (s.newF F) gv' ∧ (∀ b, okb B s gv b → (∀ i blk g, F i = some (blk, g) → blkOf g ≠ some b) → okb B (s.newF F) gv' b) ∧ (∀ i blk g, F i = some (blk, g) → gv' i (s.N i) = g) := by
  let gv' : GV := fun j u => if u = s.N j then (match F j with | some (_, g) => g | none => gv j u) else gv j u
  have hgi : ∀ i blk g, F i = some (blk, g) → gv' i (s.N i) = g := fun i blk g e => by simp [gv', e]
  have hgo : ∀ j u, (u ≠ s.N j ∨ F j = none) → gv' j u = gv j u := by
    intro j u e
    simp only [gv']
    split
    · rename_i e2
      rcases e with e | e
      · exact absurd e2 e
      · rw [e]
    · rfl
  have hH : ∀ j u, (s.newF F).H j u ≠ none → (u = s.N j ∧ ∃ blk g, F j = some (blk, g)) ∨ ((u ≠ s.N j ∨ F j = none) ∧ s.H j u ≠ none) := by
    intro j u hj
    simp only [AS.newF] at hj
    split at hj
    · rename_i e
      cases hF : F j with
      | some p => obtain ⟨blk, g⟩ := p; exact .inl ⟨e, blk, g, rfl⟩
      | none => rw [hF] at hj; exact .inr ⟨.inr rfl, hj⟩
    · rename_i e; exact .inr ⟨.inl e, hj⟩
  have hO : ∀ j u, Ow ((s.newF F).H j u) → (u = s.N j ∧ ∃ blk g, F j = some (blk, g)) ∨ ((u ≠ s.N j ∨ F j = none) ∧ Ow (s.H j u)) := by
    intro j u hj
    simp only [AS.newF] at hj
    split at hj
    · rename_i e
      cases hF : F j with
      | some p => obtain ⟨blk, g⟩ := p; exact .inl ⟨e, blk, g, rfl⟩
      | none => rw [hF] at hj; exact .inr ⟨.inr rfl, hj⟩
    · rename_i e; exact .inr ⟨.inl e, hj⟩
  have hlive : ∀ j u, Ow (s.H j u) → ∀ b, blkOf (gv j u) = some b → b < w.heap.size := by
    intro j u hj b hbk
    obtain ⟨bl, e, ho⟩ := hj.ex
    exact ((h.live j u bl e).blk ho b hbk).2
  have hokb : ∀ b, okb B s gv b → (∀ i blk g, F i = some (blk, g) → blkOf g ≠ some b) → okb B (s.newF F) gv' b := by
    intro b hok hn
    refine ⟨hok.1, fun j u hj => ?_⟩
    rcases hO j u hj with ⟨rfl, blk, g, e⟩ | ⟨e, hj'⟩
    · rw [hgi j blk g e]; exact hn j blk g e
    · rw [hgo j u e]; exact hok.2 j u hj'
  have hk : Keep B w s gv w' (s.newF F) gv' := by
    refine ⟨hb.size, fun b hlt hok => hokb b hok (fun i blk g e hbk => ?_), fun b hlt _ => hb.block b hlt, fun j => ?_, fun j u hu hj => ?_⟩
    · have := hfresh i blk g e b hbk; omega
    · simp only [AS.newF]; split <;> omega
    · rcases hH j u hj with ⟨rfl, _⟩ | ⟨e, hj'⟩
      · omega
      · exact ⟨hj', hgo j u e⟩
  refine ⟨gv', ⟨h.above, h.defers, h.size, h.below.then hb.os hb.tape hb.output hb.size (fun k hlt _ => hb.block k (Nat.lt_of_lt_of_le hlt h.below.size)), fun j u hj => ?_, fun j u blk' hj => ?_, fun j u j' u' b h1 h2 h3 h4 => ?_, fun j => hk.av (h.tmps j)⟩, hk, hokb, hgi⟩
  · rcases hH j u hj with ⟨rfl, blk, g, e⟩ | ⟨e, hj'⟩
    · simp [AS.newF, e]
    · have := h.ver j u hj'
      simp only [AS.newF]
      split <;> omega
  · have hj2 : (s.newF F).H j u ≠ none := by rw [hj]; simp
    rcases hH j u hj2 with ⟨rfl, blk, g, e⟩ | ⟨e, hj'⟩
    · have : blk = blk' := by simpa [AS.newF, e] using hj
      subst this
      rw [hgi j blk g e]
      exact hrep _ _ rfl hk hokb j blk g e
    · have hj3 : s.H j u = some blk' := by
        simp only [AS.newF] at hj
        split at hj
        · rename_i e2
          rcases e with e | e
          · exact absurd e2 e
          · rw [e] at hj; exact hj
        · exact hj
      rw [hgo j u e]
      exact hk.b (h.live j u blk' hj3) (fun ho b hbk => hb.block b (hlive j u (by rw [hj3]; exact ho) b hbk))
  · rcases hO j u h1 with ⟨rfl, blk, g, e⟩ | ⟨e, hj'⟩
    · rw [hgi j blk g e] at h3
      rcases hO j' u' h2 with ⟨rfl, blk', g', e'⟩ | ⟨e', hj''⟩
      · rw [hgi j' blk' g' e'] at h4
        obtain rfl := hinj j j' blk g blk' g' b e e' h3 h4
        exact ⟨rfl, rfl⟩
      · rw [hgo j' u' e'] at h4
        have := hfresh j blk g e b h3
        have := hlive j' u' hj'' b h4
        omega
    · rw [hgo j u e] at h3
      rcases hO j' u' h2 with ⟨rfl, blk', g', e'⟩ | ⟨e', hj''⟩
      · rw [hgi j' blk' g' e'] at h4
        have := hfresh j' blk' g' e' b h4
        have := hlive j u hj' b h3
        omega
      · rw [hgo j' u' e'] at h4
        exact h.inj j u j' u' b hj' hj'' h3 h4
theorem take_eq (rs : List R) (vs : List Value) (base : Nat) : ∀ (s : AS), s.take base rs = s.newF (newOf base rs vs) := by
  have key : ∀ (rs : List R) (k : Nat) (s : AS), vs.length = vs.length → True := fun _ _ _ _ => trivial
  suffices h : ∀ (rs' : List R) (b' : Nat) (vs' : List Value) (s : AS), s.take b' rs' = s.newF (newOf b' rs' vs') from fun s => h rs base vs s
  intro rs'
  induction rs' with
  | nil =>
    intro b' vs' s
    have : newOf b' [] vs' = fun _ => none := by funext i; simp only [newOf, List.length_nil]; rw [if_neg (by omega)]
    rw [this]
    cases s
    simp [AS.take, AS.newF]
  | cons r rs' ih =>
    intro b' vs' s
    cases r with
    | c x =>
      simp only [AS.take]
      rw [ih (b' + 1) (vs'.drop 1) s]
      congr 1
      funext i
      simp only [newOf, List.length_cons]
      by_cases hi : b' + 1 ≤ i ∧ i < b' + 1 + rs'.length
      · rw [if_pos hi, if_pos (by omega)]
        have e : i - b' = (i - (b' + 1)) + 1 := by omega
        rw [e, List.getD_cons_succ, getD_drop]
        have e2 : 1 + (i - (b' + 1)) = i - (b' + 1) + 1 := by omega
        rw [e2]
      · rw [if_neg hi]
        split
        · rename_i h2
          have e : i - b' = 0 := by omega
          rw [e]
          rfl
        · rfl
    | own E sz xs =>
      simp only [AS.take]
      rw [ih (b' + 1) (vs'.drop 1) _]
      have hF0 : newOf (b' + 1) rs' (vs'.drop 1) b' = none := by simp [newOf]; omega
      have hF1 : newOf b' (.own E sz xs :: rs') vs' b' = some (.arr E sz xs, vs'.getD 0 Go.undef) := by simp [newOf]
      have hFo : ∀ i, i ≠ b' → newOf b' (.own E sz xs :: rs') vs' i = newOf (b' + 1) rs' (vs'.drop 1) i := by
        intro i hi
        simp only [newOf, List.length_cons]
        by_cases hc : b' + 1 ≤ i ∧ i < b' + 1 + rs'.length
        · rw [if_pos hc, if_pos (by omega)]
          have e : i - b' = (i - (b' + 1)) + 1 := by omega
          rw [e, List.getD_cons_succ, getD_drop]
          have e2 : 1 + (i - (b' + 1)) = i - (b' + 1) + 1 := by omega
          rw [e2]
        · rw [if_neg hc, if_neg (by omega)]
      generalize newOf (b' + 1) rs' (vs'.drop 1) = F1 at *
      generalize newOf b' (.own E sz xs :: rs') vs' = F2 at *
      cases s with
      | mk t H N =>
        simp only [AS.newF, AS.new, AS.mk.injEq, true_and]
        refine ⟨?_, ?_⟩
        · funext i v
          by_cases hi : i = b'
          · subst hi
            simp only [hF0, hF1, if_true, true_and]
            by_cases hv : v = N i
            · subst hv; simp
            · simp [hv]
          · rw [hFo i hi]
            simp [hi]
        · funext i
          by_cases hi : i = b'
          · subst hi; simp [hF0, hF1]
          · rw [hFo i hi]; simp [hi]
end
end Go.AV
end
