/- Texts Av8. -/
import Derived.Test.YtlgnflbekdldnaaGreatDoorAvK7
set_option linter.unusedVariables false
set_option linter.unusedSimpArgs false
set_option linter.unusedSectionVars false
noncomputable section
namespace Go.AV
open Go.RowKit
section
variable {B : Nat → Prop} {nt : Nat} {w0 : Base} {w : World} {s : AS} {a : Act} {gv : GV} {P : Program} {o : Oper} {K : AS → Prop}
def AS.pk (s : AS) : A → Option C
  | .c x => some x
  | .nil => some (.sl [])
  | .own h v => match s.H h v with
    | some (.arr _ _ xs) => some (.sl xs)
    | some (.frz c) => some c
    | _ => none
  | .fn f [] => some (.fn f [])
  | _ => none
def AS.pks (s : AS) : List A → Option (List C)
  | [] => some []
  | x :: xs => match s.pk x, s.pks xs with
    | some y, some ys => some (y :: ys)
    | _, _ => none
def owns : List A → List (Nat × Nat)
  | [] => []
  | .own h v :: xs => (h, v) :: owns xs
  | _ :: xs => owns xs
def AS.frzs (s : AS) (l : List (Nat × Nat)) : AS := l.foldl (fun s p => s.frz p.1 p.2) s
theorem frzs_H (l : List (Nat × Nat)) : ∀ (s : AS) (h v : Nat), (s.frzs l).H h v = if (h, v) ∈ l then frzB (s.H h v) else s.H h v := by
  induction l with
  | nil => intro s h v; simp [AS.frzs]
  | cons p l ih =>
    intro s h v
    simp only [AS.frzs, List.foldl_cons] at ih ⊢
    rw [ih]
    obtain ⟨i, u⟩ := p
    by_cases e2 : h = i ∧ v = u
    · obtain ⟨rfl, rfl⟩ := e2
      by_cases e : (h, v) ∈ l
      · simp [e, AS.frz, frzB_frzB]
      · simp [e, AS.frz]
    · have : (h, v) ≠ (i, u) := fun hh => e2 (by cases hh; exact ⟨rfl, rfl⟩)
      simp [e2, AS.frz, this]
theorem frzs_N (l : List (Nat × Nat)) : ∀ (s : AS), (s.frzs l).N = s.N := by
  induction l with
  | nil => intro s; rfl
  | cons p l ih => intro s; exact (ih (s.frz p.1 p.2)).trans rfl
theorem frzs_t (l : List (Nat × Nat)) : ∀ (s : AS), (s.frzs l).t = s.t := by
  induction l with
  | nil => intro s; rfl
  | cons p l ih => intro s; exact (ih (s.frz p.1 p.2)).trans rfl
def AS.kills (s : AS) (l : List (Nat × Nat)) : AS := l.foldl (fun s p => s.kill p.1 p.2) s
theorem kills_H (l : List (Nat × Nat)) : ∀ (s : AS) (h v : Nat), (s.kills l).H h v = if (h, v) ∈ l then none else s.H h v := by
  induction l with
  | nil => intro s h v; simp [AS.kills]
  | cons p l ih =>
    intro s h v
    simp only [AS.kills, List.foldl_cons] at ih ⊢
    rw [ih]
    obtain ⟨i, u⟩ := p
    by_cases e : (h, v) ∈ l
    · simp [e]
    · by_cases e2 : h = i ∧ v = u
      · obtain ⟨rfl, rfl⟩ := e2
        simp [AS.kill]
      · have : (h, v) ≠ (i, u) := fun hh => e2 (by cases hh; exact ⟨rfl, rfl⟩)
        simp [e, e2, AS.kill]
theorem SimG.kills (hs : SimG B nt w0 s a w gv) (l : List (Nat × Nat)) : SimG B nt w0 (s.kills l) a w gv ∧ Keep B w s gv w (s.kills l) gv := by
  have hH : ∀ j u, (s.kills l).H j u ≠ none → s.H j u ≠ none := by
    intro j u hj
    rw [kills_H] at hj
    split at hj
    · exact absurd rfl hj
    · exact hj
  have hN : (s.kills l).N = s.N := by
    clear hs hH
    induction l generalizing s with
    | nil => rfl
    | cons p l ih => exact (ih (s := s.kill p.1 p.2)).trans rfl
  have ht : (s.kills l).t = s.t := by
    clear hs hH hN
    induction l generalizing s with
    | nil => rfl
    | cons p l ih => exact (ih (s := s.kill p.1 p.2)).trans rfl
  have hO : ∀ j u, Ow ((s.kills l).H j u) → Ow (s.H j u) := by
    intro j u hj
    rw [kills_H] at hj
    split at hj
    · exact hj.elim
    · exact hj
  have hk : Keep B w s gv w (s.kills l) gv := ⟨Nat.le_refl _, fun b _ hb => ⟨hb.1, fun j u hj => hb.2 j u (hO j u hj)⟩, fun _ _ _ => rfl, fun _ => by rw [hN]; exact Nat.le_refl _, fun j u _ hj => ⟨hH j u hj, rfl⟩⟩
  refine ⟨⟨hs.above, hs.defers, hs.size, hs.below, fun j u hj => by rw [hN]; exact hs.ver j u (hH j u hj), fun j u blk hj => ?_, fun j u j' u' b h1 h2 => hs.inj j u j' u' b (hO j u h1) (hO j' u' h2), fun j => by rw [ht]; exact hk.av (hs.tmps j)⟩, hk⟩
  have : s.H j u = some blk := by
    rw [kills_H] at hj
    split at hj
    · cases hj
    · exact hj
  exact hk.b (hs.live j u blk this) (fun _ _ _ => rfl)
theorem mem_owns {x : A} {xs : List A} {h v : Nat} (hx : x ∈ xs) (he : x = .own h v) : (h, v) ∈ owns xs := by
  subst he
  induction xs with
  | nil => cases hx
  | cons y ys ih =>
    rcases List.mem_cons.1 hx with rfl | hx
    · simp [owns]
    · have := ih hx
      cases y <;> simp [owns, this]
theorem RepCs.sl {ok : Nat → Prop} {E sz : Nat} {g : Value} {xs : List (List C)} {vals : List Value} {base : Nat} (hsz : ∀ x ∈ xs, x.length = sz) (hrow : w.ownsRow base E sz g xs.length vals) (hcs : RepCs w ok xs.flatten vals)
    (hok : ∀ b, blkOf g = some b → ok b) : RepC w ok (.sl xs) g := by
  rcases hrow.2 with ⟨rfl, hn⟩ | ⟨g', cap, cur, rfl, hbase, hheap, hlen, hcap, hcur, htake⟩
  · obtain rfl : xs = [] := List.eq_nil_of_length_eq_zero hn
    exact .nil
  · have hfl : xs.flatten.length = xs.length * sz := flatten_length hsz
    refine .sl xs g' 0 cap sz (fun m => vals.getD m Go.undef) (hok g' rfl) (Array.getElem?_eq_some_iff.1 hheap).1 hlen hcap hsz (fun m hm => ?_) (fun m hm => ?_)
    · rw [cell_of_row w g' _ cur E (0, 0) hheap, Nat.zero_add]
      have hm' : m < vals.length := by rw [hcs.1, hfl]; exact hm
      have e : vals[m]? = some (vals.getD m Go.undef) := by rw [getD_lt _ _ _ hm']; exact List.getElem?_eq_getElem hm'
      rw [← htake, List.getElem?_take] at e
      rw [if_pos hm] at e
      rw [htake] at e
      simpa using e
    · unfold fl
      exact hcs.2 m (by rw [hfl]; exact hm)
theorem SimG.frzs (hs : SimG B nt w0 s a w gv) (l : List (Nat × Nat)) : SimG B nt w0 (s.frzs l) a w gv ∧ Keep B w s gv w (s.frzs l) gv := by
  have hH : ∀ j u, (s.frzs l).H j u ≠ none → s.H j u ≠ none := by
    intro j u hj
    rw [frzs_H] at hj
    split at hj
    · exact frzB_ne hj
    · exact hj
  have hO : ∀ j u, Ow ((s.frzs l).H j u) → Ow (s.H j u) ∧ (j, u) ∉ l := by
    intro j u hj
    rw [frzs_H] at hj
    split at hj
    · exact absurd hj (frzB_ow _)
    · rename_i h; exact ⟨hj, h⟩
  have hk : Keep B w s gv w (s.frzs l) gv := ⟨Nat.le_refl _, fun b _ hb => ⟨hb.1, fun j u hj => hb.2 j u (hO j u hj).1⟩, fun _ _ _ => rfl, fun _ => by rw [frzs_N]; exact Nat.le_refl _, fun j u _ hj => ⟨hH j u hj, rfl⟩⟩
  refine ⟨⟨hs.above, hs.defers, hs.size, hs.below, fun j u hj => by rw [frzs_N]; exact hs.ver j u (hH j u hj), fun j u blk hj => ?_, fun j u j' u' b h1 h2 => hs.inj j u j' u' b (hO j u h1).1 (hO j' u' h2).1, fun j => by rw [frzs_t]; exact hk.av (hs.tmps j)⟩, hk⟩
  rw [frzs_H] at hj
  split at hj
  · rename_i hm
    cases e : s.H j u with
    | none => rw [e] at hj; cases hj
    | some bl =>
      have hl := hs.live j u bl e
      rw [e] at hj
      cases bl with
      | box cells => cases hj
      | iter agg ks vs done => cases hj
      | map agg ks vs =>
        cases hj
        have hlive := hl
        obtain ⟨b, ents, clock, vals, hg, h1, h2, h8⟩ := hlive
        show RepC w (okb B (s.frzs l) gv) (.map agg ks vs) (gv j u)
        rw [hg]
        refine .map agg ks vs b ents clock vals ⟨hs.above b h1, fun j' u' hj' hb' => ?_⟩ (Array.getElem?_eq_some_iff.1 h2.at_).1 h2 (fun i' j' hi' hj' => hk.c (h8 i' j' hi' hj'))
        obtain ⟨h3, h4⟩ := hO j' u' hj'
        obtain ⟨rfl, rfl⟩ := hs.inj j u j' u' b (by rw [e]; trivial) h3 (by rw [hg]; rfl) hb'
        exact h4 hm
      | frz xs => cases hj; exact hk.b hl (fun h => h.elim)
      | arr E sz xs =>
        cases hj
        have hlive := hl
        obtain ⟨vals, hsz, hrow, _, hcs⟩ := hlive
        refine RepCs.sl hsz hrow (hk.cs hcs) (fun b hb => ⟨hs.above b (hl.blk trivial b hb).1, fun j' u' hj' hb' => ?_⟩)
        obtain ⟨h1, h2⟩ := hO j' u' hj'
        obtain ⟨rfl, rfl⟩ := hs.inj j u j' u' b (by rw [e]; trivial) h1 hb hb'
        exact h2 hm
  · exact hk.b (hs.live j u blk hj) (fun _ _ _ => rfl)
theorem SimG.pk (hs : SimG B nt w0 s a w gv) (l : List (Nat × Nat)) {x : A} {y : C} {v : Value} (hr : RepA B w s gv x v) (hp : s.pk x = some y) (hl : ∀ h u, x = .own h u → (h, u) ∈ l) :
    RepC w (okb B (s.frzs l) gv) y v := by
  obtain ⟨hs', hk⟩ := hs.frzs l
  cases hr with
  | @c z v hz =>
    have : z = y := by simpa [AS.pk] using hp
    subst this
    exact hk.c hz
  | nil => simp [AS.pk] at hp; subst hp; exact .nil
  | @own h u v hv hx =>
    have key : ∃ c, frzB (s.H h u) = some (.frz c) ∧ y = c ∧ s.H h u ≠ none := by
      simp only [AS.pk] at hp
      split at hp
      · rename_i E sz xs hH
        cases hp
        exact ⟨_, by rw [hH]; rfl, rfl, by rw [hH]; simp⟩
      · rename_i xs hH
        cases hp
        exact ⟨_, by rw [hH]; rfl, rfl, by rw [hH]; simp⟩
      · cases hp
    obtain ⟨xs, hH, rfl, hn⟩ := key
    have := hx hn
    subst this
    exact hs'.live h u (.frz _) (by rw [frzs_H, if_pos (hl h u rfl)]; exact hH)
  | fn hn hv =>
    rename_i f caps vs
    cases caps with
    | nil =>
      simp [AS.pk] at hp
      subst hp
      exact .fn f [] vs hn (fun m hm => by simp at hm)
    | cons => simp [AS.pk] at hp
  | _ => simp [AS.pk] at hp
theorem pks_length {xs : List A} : ∀ {ys : List C}, s.pks xs = some ys → ys.length = xs.length := by
  induction xs with
  | nil => intro ys h; simp [AS.pks] at h; subst h; rfl
  | cons x xs ih =>
    intro ys h
    simp only [AS.pks] at h
    split at h
    · rename_i y ys' h1 h2
      cases h
      simp [ih h2]
    · cases h
theorem pks_get {xs : List A} : ∀ {ys : List C}, s.pks xs = some ys → ∀ m, m < xs.length → s.pk (xs.getD m .any) = some (ys.getD m .junk) := by
  induction xs with
  | nil => intro ys h m hm; simp at hm
  | cons x xs ih =>
    intro ys h m hm
    simp only [AS.pks] at h
    split at h
    · rename_i y ys' h1 h2
      cases h
      cases m with
      | zero => exact h1
      | succ m => simpa using ih h2 m (by simpa using hm)
    · cases h
theorem SimG.pks (hs : SimG B nt w0 s a w gv) (l : List (Nat × Nat)) {xs : List A} {ys : List C} {vs : List Value} (hr : RepAs B w s gv xs vs) (hp : s.pks xs = some ys) (hl : ∀ p ∈ owns xs, p ∈ l) :
    RepCs w (okb B (s.frzs l) gv) ys vs :=
  ⟨by rw [pks_length hp]; exact hr.1, fun m hm => by
    have hm' : m < xs.length := by rw [pks_length hp] at hm; exact hm
    exact hs.pk l (hr.2 m hm') (pks_get hp m hm') (fun h u he => hl _ (mem_owns (getD_mem _ _ _ hm') he))⟩
theorem run_storeAt_cells (t : TypeId) (b off : Nat) (v : Value) (i : TypeInfo) (hi : P.info? t = some i) (hn : v.cells.size = i.size) (h1 : ∀ u ∈ v.cells.toList, u.oneCell' = true) (cur : Array Value) (T : TypeId)
    (hg : w.heap[b]? = some (.cells cur T (0, 0))) (hle : off + v.cells.size ≤ cur.size) :
    (Instr.storeAt t (.pointer (some ⟨b, off, none⟩)) v).run P w = .ok () (w.setRow b (spl cur.toList off v.cells.toList).toArray) := by
  have hst := run_storeCells_at P b off T v.cells.toList 0 cur w hg (by simpa using hle) h1
  simp only [Nat.add_zero] at hst
  simp only [Instr.storeAt, Instr.sureAddr, Sem.run_bind, Sem.run_pure, Result.andThen_ok, storeVar, sizeOf_run hi]
  rw [if_neg (by simp [hn])]
  exact hst
theorem setRow_heap_same (w : World) (b : Nat) (cur cur' : Array Value) (T : TypeId) (hg : w.heap[b]? = some (.cells cur T (0, 0))) : (w.setRow b cur').heap[b]? = some (.cells cur' T (0, 0)) :=
  setRow_heap w b cur cur' T _ hg
theorem setRow_heap_other (w : World) (b k : Nat) (cur' : Array Value) (h : k ≠ b) : (w.setRow b cur').heap[k]? = w.heap[k]? := by
  simp only [World.setRow, Array.getElem?_modify]
  rw [if_neg (by omega)]
theorem setRow_size (w : World) (b : Nat) (cur' : Array Value) : (w.setRow b cur').heap.size = w.heap.size := by simp [World.setRow]
theorem opok_store_box (hd : o.dst = none) (t : TypeId) (p x : Operand) (ho : o.op = .store t p x) (ti : TI) (ht : tiOf P t = some ti) (h v off : Nat) (hp : s.ev p = .one (.ptr h v off)) (cells : List A)
    (hH : s.H h v = some (.box cells)) (cs : List A) (hx : s.cellsO (s.ev x) = some cs) (hn : cs.length = ti.size) (hle : off + cs.length ≤ cells.length)
    (hk : K (s.set h v (.box (spl cells off cs)))) : OpOK B P nt w0 o s K := by
  intro a w ⟨gv, hs, hK⟩ Q
  obtain ⟨i, d, g1, g2, g3, g4, g5, g6, g7⟩ := tiOf_some ht
  have hpv := hs.ev p
  rw [hp] at hpv
  generalize hev : a.eval p = pv at hpv
  cases hpv with | one hpv =>
  cases hpv with | ptr hv hxx =>
  have hlive : s.H h v ≠ none := by rw [hH]; simp
  have hlow : Ow (s.H h v) := by rw [hH]; trivial
  obtain ⟨b, hb, rfl⟩ := hxx hlive
  obtain ⟨b', vals, T, hg, hbase, hheap, hrep⟩ := hs.live h v _ hH
  obtain rfl : b' = b := by rw [hg] at hb; simpa [blkOf] using hb
  obtain ⟨hxr, h1, _⟩ := hs.cells (hs.ev x) (AS.cellsOf_of hx)
  have hvl : vals.size = cells.length := by have := hrep.1; simpa using this
  have hxl : (a.eval x).cells.size = cs.length := by have := hxr.1; simpa using this
  have hr := run_storeAt_cells (P := P) t b' off (a.eval x) i g1 (by omega) h1 vals T hheap (by omega)
  have hrun : (execOp a.eval o).run P w = .ok .skip (w.setRow b' (spl vals.toList off (a.eval x).cells.toList).toArray) := by simp [execOp, ho, hev, hr]
  obtain ⟨hs', hk'⟩ := hs.set h v hlow (.box (spl cells off cs)) (w' := w.setRow b' (spl vals.toList off (a.eval x).cells.toList).toArray) rfl rfl rfl (by rw [setRow_size]; exact Nat.le_refl _)
    (fun k hk1 hk2 => setRow_heap_other _ _ _ _ (fun e => hk2 (by rw [hg, e]; rfl)))
    (fun hkeep => ⟨b', _, T, hg, hbase, setRow_heap_same _ _ _ _ _ hheap, by simpa using (hkeep.asx hrep).spl (hkeep.asx hxr) off hle⟩)
  unfold Oper.wp
  rw [hrun]
  refine ⟨_, hk, gv, ?_, hK.trans hk'⟩
  rw [hd]
  exact hs'
theorem opok_store_arr (hd : o.dst = none) (t : TypeId) (p x : Operand) (ho : o.op = .store t p x) (ti : TI) (ht : tiOf P t = some ti) (h v sz k j : Nat) (hp : s.ev p = .one (.eptr h v sz k j)) (E : TypeId) (xs : List (List C))
    (hH : s.H h v = some (.arr E sz xs)) (hki : k < xs.length) (cs : List A) (hx : s.cellsO (s.ev x) = some cs) (ys : List C) (hpk : s.pks cs = some ys) (hown : (h, v) ∉ owns cs) (hn : ys.length = ti.size) (hle : j + ys.length ≤ sz)
    (hk : K ((s.frzs (owns cs)).set h v (.arr E sz (xs.set k (spl (xs.getD k []) j ys))))) : OpOK B P nt w0 o s K := by
  intro a w ⟨gv, hs, hK⟩ Q
  obtain ⟨i, d, g1, g2, g3, g4, g5, g6, g7⟩ := tiOf_some ht
  have hpv := hs.ev p
  rw [hp] at hpv
  generalize hev : a.eval p = pv at hpv
  cases hpv with | one hpv =>
  cases hpv with | eptr hv hxx =>
  have hlive : s.H h v ≠ none := by rw [hH]; simp
  have hlow : Ow (s.H h v) := by rw [hH]; trivial
  obtain ⟨b, hb, rfl⟩ := hxx hlive
  obtain ⟨vals, hsz, hrow, hfr, hcs⟩ := hs.live h v _ hH
  obtain ⟨hxr, h1, _⟩ := hs.cells (hs.ev x) (AS.cellsOf_of hx)
  have hxc := hs.pks (owns cs) hxr hpk (fun p hp => hp)
  obtain ⟨hs1, hk1⟩ := hs.frzs (owns cs)
  have hH1 : (s.frzs (owns cs)).H h v = some (.arr E sz xs) := by rw [frzs_H, if_neg hown]; exact hH
  rcases hrow.2 with ⟨hg, hn0⟩ | ⟨g, cap, cur, hg, hbase, hheap, hlen, hcap, hcur, htake⟩
  · rw [hg] at hb; simp [blkOf] at hb
  obtain rfl : g = b := by rw [hg] at hb; simpa [blkOf] using hb
  have hfl : xs.flatten.length = xs.length * sz := flatten_length hsz
  have hvl : vals.length = xs.length * sz := by rw [hcs.1, hfl]
  have hmul : (k + 1) * sz ≤ xs.length * sz := Nat.mul_le_mul_right _ hki
  rw [Nat.succ_mul] at hmul
  have hcapm : xs.length * sz ≤ cap * sz := Nat.mul_le_mul_right _ hlen
  have hxl : (a.eval x).cells.size = ys.length := by have := hxc.1; simpa using this
  have hr := run_storeAt_cells (P := P) t g (k * sz + j) (a.eval x) i g1 (by omega) h1 cur E hheap (by omega)
  have hrun : (execOp a.eval o).run P w = .ok .skip (w.setRow g (spl cur.toList (k * sz + j) (a.eval x).cells.toList).toArray) := by simp [execOp, ho, hev, hr]
  have hxk : (xs.getD k []).length = sz := hsz _ (getD_mem _ _ _ hki)
  have hsz' : ∀ y ∈ xs.set k (spl (xs.getD k []) j ys), y.length = sz := by
    intro y hy
    rcases List.mem_or_eq_of_mem_set hy with hy | rfl
    · exact hsz y hy
    · rw [spl_length _ _ _ (by omega), hxk]
  have hflat : ∀ m, m < xs.length * sz → (xs.set k (spl (xs.getD k []) j ys)).flatten.getD m .junk = (spl xs.flatten (k * sz + j) ys).getD m .junk := by
    intro m hm
    have hpos : 0 < sz := by
      rcases Nat.eq_zero_or_pos sz with e | e
      · rw [e] at hm; simp at hm
      · exact e
    have hdm : m = m / sz * sz + m % sz := by rw [Nat.mul_comm]; exact (Nat.div_add_mod m sz).symm
    have hq : m / sz < xs.length := by rw [Nat.div_lt_iff_lt_mul hpos]; exact hm
    have hmod := Nat.mod_lt m hpos
    have e1 := flatten_getD hsz' (m / sz) (m % sz) (by simpa using hq) hmod
    have e2 := flatten_getD hsz (m / sz) (m % sz) hq hmod
    unfold fl at e1 e2
    rw [← hdm] at e1 e2
    rw [spl_getD _ _ _ (by omega), e1, e2]
    by_cases hqk : m / sz = k
    · rw [hqk]
      have : (xs.set k (spl (xs.getD k []) j ys)).getD k [] = spl (xs.getD k []) j ys := by
        rw [getD_lt _ _ _ (by simpa using hki)]; simp
      rw [this, spl_getD _ _ _ (by omega)]
      have hdm' : m = k * sz + m % sz := by rw [← hqk]; exact hdm
      by_cases hin : j ≤ m % sz ∧ m % sz < j + ys.length
      · rw [if_pos hin, if_pos (by omega)]
        congr 1
        omega
      · rw [if_neg hin, if_neg (by omega)]
    · have : (xs.set k (spl (xs.getD k []) j ys)).getD (m / sz) [] = xs.getD (m / sz) [] := by
        simp only [List.getD_eq_getElem?_getD, List.getElem?_set]
        rw [if_neg (by omega)]
      rw [this, if_neg]
      intro hin
      apply hqk
      have : k * sz ≤ m ∧ m < (k + 1) * sz := by rw [Nat.succ_mul]; omega
      rw [Nat.div_eq_iff hpos]
      rw [Nat.mul_comm]
      rw [Nat.succ_mul] at this
      constructor <;> (rw [Nat.mul_comm sz k]) <;> omega
  obtain ⟨hs', hk'⟩ := hs1.set h v (by rw [hH1]; trivial) (.arr E sz (xs.set k (spl (xs.getD k []) j ys))) (w' := w.setRow g (spl cur.toList (k * sz + j) (a.eval x).cells.toList).toArray) rfl rfl rfl (by rw [setRow_size]; exact Nat.le_refl _)
    (fun q hq1 hq2 => setRow_heap_other _ _ _ _ (fun e => hq2 (by rw [hg, e]; rfl)))
    (fun hkeep => by
      refine ⟨spl vals (k * sz + j) (a.eval x).cells.toList, hsz', ?_, hfr, ?_⟩
      · refine ⟨?_, .inr ⟨g, cap, (spl cur.toList (k * sz + j) (a.eval x).cells.toList).toArray, by rw [List.length_set]; exact hg, hbase, setRow_heap_same _ _ _ _ _ hheap, by rw [List.length_set]; exact hlen, hcap, ?_, ?_⟩⟩
        · rw [spl_length _ _ _ (by simp; omega), List.length_set, hvl]
        · rw [List.size_toArray, spl_length _ _ _ (by simp; omega)]; simpa using hcur
        · simp only [List.length_set]
          rw [← htake]
          apply List.ext_getElem
          · rw [List.length_take, spl_length _ _ _ (by simp; omega), spl_length _ _ _ (by simp; omega), List.length_take]
          · intro m e1 e2
            have hm : m < xs.length * sz := by simp at e1; omega
            have q1 := spl_getD cur.toList (k * sz + j) (a.eval x).cells.toList (by simp; omega) Go.undef m
            have q2 := spl_getD (cur.toList.take (xs.length * sz)) (k * sz + j) (a.eval x).cells.toList (by simp; omega) Go.undef m
            rw [← getD_lt _ Go.undef _ e1, ← getD_lt _ Go.undef _ e2, getD_take _ _ _ _ hm, q1, q2, getD_take _ _ _ _ hm]
      · have hcs' := hkeep.cs (hk1.cs hcs)
        have hxc' := hkeep.cs hxc
        have hfl' : (xs.set k (spl (xs.getD k []) j ys)).flatten.length = xs.length * sz := by rw [flatten_length hsz', List.length_set]
        refine ⟨by rw [spl_length _ _ _ (by simp; omega), hfl', hvl], fun m hm => ?_⟩
        rw [hfl'] at hm
        rw [hflat m hm, spl_getD _ _ _ (by rw [hfl]; omega), spl_getD _ _ _ (by simp; omega)]
        simp only [Array.length_toList, hxl]
        split
        · exact hxc'.2 _ (by omega)
        · exact hcs'.2 m (by rw [hfl]; exact hm))
  unfold Oper.wp
  rw [hrun]
  refine ⟨_, hk, gv, ?_, hK.trans (hk1.trans hk')⟩
  rw [hd]
  exact hs'
end
end Go.AV
end
