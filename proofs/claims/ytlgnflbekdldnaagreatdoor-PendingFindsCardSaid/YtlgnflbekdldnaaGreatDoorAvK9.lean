/- Texts Av9. -/
import Derived.Laws.OwnMore
import Derived.Test.YtlgnflbekdldnaaGreatDoorAvK8
set_option linter.unusedVariables false
set_option linter.unusedSimpArgs false
set_option linter.unusedSectionVars false
noncomputable section
namespace Go.AV
open Go.RowKit
section
variable {B : Nat → Prop} {nt : Nat} {w0 : Base} {w : World} {s : AS} {a : Act} {gv : GV} {P : Program} {o : Oper} {K : AS → Prop}
theorem kills_N (l : List (Nat × Nat)) : ∀ (s : AS), (s.kills l).N = s.N := by
  induction l with
  | nil => intro s; rfl
  | cons p l ih => intro s; exact (ih (s.kill p.1 p.2)).trans rfl
theorem kills_t (l : List (Nat × Nat)) : ∀ (s : AS), (s.kills l).t = s.t := by
  induction l with
  | nil => intro s; rfl
  | cons p l ih => intro s; exact (ih (s.kill p.1 p.2)).trans rfl
theorem SimG.renew {w' : World} (h : SimG B nt w0 s a w gv) (l : List (Nat × Nat)) (hl : ∀ p ∈ l, Ow (s.H p.1 p.2)) (i : Nat) (blk : Blk) (g : Value)
    (hos : w'.os = w.os) (htape : w'.tape = w.tape) (hout : w'.output = w.output) (hsize : w.heap.size ≤ w'.heap.size)
    (hblk : ∀ b, b < w.heap.size → (∀ p ∈ l, blkOf (gv p.1 p.2) ≠ some b) → w'.heap[b]? = w.heap[b]?)
    (hg : ∀ b, blkOf g = some b → w.heap.size ≤ b ∨ ∃ p ∈ l, blkOf (gv p.1 p.2) = some b)
    (hrep : ∀ s' gv', Keep B w s gv w' s' gv' → s' = (s.kills l).new i blk → RepB B w0 w' s' gv' g blk) :
    ∃ gv', SimG B nt w0 ((s.kills l).new i blk) a w' gv' ∧ Keep B w s gv w' ((s.kills l).new i blk) gv' ∧ gv' i (s.N i) = g := by
  let gv' : GV := fun j u => if j = i ∧ u = s.N i then g else gv j u
  have hN : (s.kills l).N = s.N := kills_N l s
  have hH : ∀ j u, ((s.kills l).new i blk).H j u ≠ none → (j = i ∧ u = s.N i) ∨ (¬ (j = i ∧ u = s.N i) ∧ s.H j u ≠ none ∧ (j, u) ∉ l) := by
    intro j u hj
    by_cases e : j = i ∧ u = s.N i
    · exact .inl e
    · refine .inr ⟨e, ?_⟩
      simp only [AS.new, hN, if_neg e] at hj
      rw [kills_H] at hj
      by_cases hm : (j, u) ∈ l
      · rw [if_pos hm] at hj; exact absurd rfl hj
      · rw [if_neg hm] at hj; exact ⟨hj, hm⟩
  have hO : ∀ j u, Ow (((s.kills l).new i blk).H j u) → (j = i ∧ u = s.N i) ∨ (¬ (j = i ∧ u = s.N i) ∧ Ow (s.H j u) ∧ (j, u) ∉ l) := by
    intro j u hj
    by_cases e : j = i ∧ u = s.N i
    · exact .inl e
    · refine .inr ⟨e, ?_⟩
      simp only [AS.new, hN, if_neg e] at hj
      rw [kills_H] at hj
      by_cases hm : (j, u) ∈ l
      · rw [if_pos hm] at hj; exact hj.elim
      · rw [if_neg hm] at hj; exact ⟨hj, hm⟩
  have hgi : gv' i (s.N i) = g := by simp [gv']
  have hgo : ∀ j u, ¬ (j = i ∧ u = s.N i) → gv' j u = gv j u := fun j u e => by simp only [gv', if_neg e]
  have hlive : ∀ j u, Ow (s.H j u) → ∀ b, blkOf (gv j u) = some b → w0.fr b ∧ b < w.heap.size := by
    intro j u hj b hb
    obtain ⟨bl, e, ho⟩ := hj.ex
    exact (h.live j u bl e).blk ho b hb
  have hk : Keep B w s gv w' ((s.kills l).new i blk) gv' := by
    refine ⟨hsize, fun b hlt hok => ⟨hok.1, fun j u hj => ?_⟩, fun b hlt hok => hblk b hlt (fun p hp => hok.2 p.1 p.2 (hl p hp)), fun j => ?_, fun j u hu hj => ?_⟩
    · rcases hO j u hj with ⟨rfl, rfl⟩ | ⟨e, hj', _⟩
      · rw [hgi]
        intro hbk
        rcases hg b hbk with hge | ⟨p, hp, hpb⟩
        · omega
        · exact hok.2 p.1 p.2 (hl p hp) hpb
      · rw [hgo j u e]
        exact hok.2 j u hj'
    · simp only [AS.new, hN]
      split
      · rename_i e; subst e; omega
      · exact Nat.le_refl _
    · rcases hH j u hj with ⟨rfl, rfl⟩ | ⟨e, hj', _⟩
      · omega
      · exact ⟨hj', hgo j u e⟩
  have hother : ∀ j u, Ow (s.H j u) → (j, u) ∉ l → ∀ b, blkOf (gv j u) = some b → w'.heap[b]? = w.heap[b]? ∧ blkOf g ≠ some b := by
    intro j u hj hm b hb
    refine ⟨hblk b (hlive j u hj b hb).2 (fun p hp hpb => ?_), fun e => ?_⟩
    · obtain ⟨e1, e2⟩ := h.inj j u p.1 p.2 b hj (hl p hp) hb hpb
      exact hm (by rw [e1, e2]; exact hp)
    · rcases hg b e with hge | ⟨p, hp, hpb⟩
      · have := (hlive j u hj b hb).2; omega
      · obtain ⟨e1, e2⟩ := h.inj j u p.1 p.2 b hj (hl p hp) hb hpb
        exact hm (by rw [e1, e2]; exact hp)
  refine ⟨gv', ⟨h.above, h.defers, h.size, h.below.then hos htape hout hsize (fun k hlt hm => hblk k (Nat.lt_of_lt_of_le hlt h.below.size) (fun p hp hpb => by rcases (hlive p.1 p.2 (hl p hp) k hpb).1 with h' | h'; (· omega); exact hm h')),
    fun j u hj => ?_, fun j u blk' hj => ?_, fun j u j' u' b h1 h2 h3 h4 => ?_, fun j => ?_⟩, hk, hgi⟩
  · rcases hH j u hj with ⟨rfl, rfl⟩ | ⟨e, hj', _⟩
    · simp [AS.new, hN]
    · have := h.ver j u hj'
      simp only [AS.new, hN]
      split
      · rename_i e'; subst e'; omega
      · exact this
  · by_cases e : j = i ∧ u = s.N i
    · obtain ⟨rfl, rfl⟩ := e
      have : blk = blk' := by simpa [AS.new, hN] using hj
      subst this
      rw [hgi]
      exact hrep _ _ hk rfl
    · have hj2 : ((s.kills l).new i blk).H j u ≠ none := by rw [hj]; simp
      rcases hH j u hj2 with e' | ⟨_, hj', hm⟩
      · exact absurd e' e
      · have hj3 : s.H j u = some blk' := by
          simp only [AS.new, hN, if_neg e] at hj
          rw [kills_H, if_neg hm] at hj
          exact hj
        rw [hgo j u e]
        exact hk.b (h.live j u blk' hj3) (fun ho b hbk => (hother j u (by rw [hj3]; exact ho) hm b hbk).1)
  · rcases hO j u h1 with ⟨rfl, rfl⟩ | ⟨e, hj', hm⟩
    · rcases hO j' u' h2 with ⟨rfl, rfl⟩ | ⟨e', hj'', hm'⟩
      · exact ⟨rfl, rfl⟩
      · rw [hgi] at h3
        rw [hgo j' u' e'] at h4
        exact absurd h3 (hother j' u' hj'' hm' b h4).2
    · rcases hO j' u' h2 with ⟨rfl, rfl⟩ | ⟨e', hj'', hm'⟩
      · rw [hgi] at h4
        rw [hgo j u e] at h3
        exact absurd h4 (hother j u hj' hm b h3).2
      · rw [hgo j u e] at h3
        rw [hgo j' u' e'] at h4
        exact h.inj j u j' u' b hj' hj'' h3 h4
  · have := h.tmps j
    have e : ((s.kills l).new i blk).t = s.t := kills_t l s
    rw [e]
    exact hk.av this
def chunk {α : Type} (sz : Nat) : Nat → List α → List (List α)
  | 0, _ => []
  | n + 1, l => l.take sz :: chunk sz n (l.drop sz)
theorem chunk_length {α : Type} (sz : Nat) : ∀ (n : Nat) (l : List α), (chunk sz n l).length = n
  | 0, _ => rfl
  | n + 1, l => by simp [chunk, chunk_length sz n]
theorem chunk_flatten {α : Type} (sz : Nat) : ∀ (n : Nat) (l : List α), l.length = n * sz → (chunk sz n l).flatten = l
  | 0, l, h => by
    have : l = [] := List.eq_nil_of_length_eq_zero (by simpa using h)
    subst this; rfl
  | n + 1, l, h => by
    rw [Nat.succ_mul] at h
    simp only [chunk, List.flatten_cons]
    rw [chunk_flatten sz n _ (by simp; omega), List.take_append_drop]
theorem chunk_size {α : Type} (sz : Nat) : ∀ (n : Nat) (l : List α), l.length = n * sz → ∀ x ∈ chunk sz n l, x.length = sz
  | 0, l, h, x, hx => by simp [chunk] at hx
  | n + 1, l, h, x, hx => by
    rw [Nat.succ_mul] at h
    simp only [chunk, List.mem_cons] at hx
    rcases hx with rfl | hx
    · simp; omega
    · exact chunk_size sz n _ (by simp; omega) x hx
def places (sz : Nat) (E : TypeId) : Nat → Nat → List (Nat × Nat × TypeId)
  | 0, _ => []
  | n + 1, off => (off, sz, E) :: places sz E n (off + sz)
theorem places_get (sz : Nat) (E : TypeId) : ∀ (n off i : Nat) (x : Nat × Nat × TypeId), (places sz E n off)[i]? = some x → x = (off + i * sz, sz, E)
  | 0, off, i, x, h => by simp [places] at h
  | n + 1, off, 0, x, h => by simp [places] at h; rw [← h]; simp
  | n + 1, off, i + 1, x, h => by
    simp only [places, List.getElem?_cons_succ] at h
    rw [places_get sz E n _ i x h, Nat.succ_mul]
    congr 1
    omega
theorem RepAs.any (n : Nat) (vals : List Value) (h : vals.length = n) : RepAs B w s gv (List.replicate n .any) vals :=
  ⟨by simp [h], fun m hm => by
    have : (List.replicate n A.any).getD m .any = .any := by rw [getD_lt _ _ _ hm]; simp
    rw [this]
    exact .any⟩
theorem opok_buildArr (hd : ∀ x, o.dst = some x → x < nt) (T : TypeId) (parts : Array (Nat × Operand)) (ho : o.op = .build T parts) (ti : TI) (ht : tiOf P T = some ti) (n : Nat) (E : TypeId) (hsh : ti.sh = .array n E)
    (te : TI) (he : tiOf P E = some te) (z : Value) (hz : zeroOf P T = some z)
    (out : List A) (hf : s.fill (places te.size E n 0) parts.toList (z.cells.toList.map constA) = some out) (hk : K (s.put o.dst (.agg out))) : OpOK B P nt w0 o s K :=
  opok_val hd _ hk fun a w gv hs => by
    obtain ⟨_, d, g1, g2, g3, g4, g5, g6, g7⟩ := tiOf_some ht
    obtain ⟨fi, fd, f1, f2, f3, f4, f5, f6, f7⟩ := tiOf_some he
    rw [g7] at hsh
    have hd' : d = .array n E := by cases d <;> simp [shOf] at hsh ⊢; exact hsh
    subst hd'
    let place : Nat → Option (Nat × Nat) := fun i => some (i * fi.size, fi.size)
    obtain ⟨vals', h1, h2⟩ := hs.fill (places te.size E n 0) place (fun i off sz ft h => by
      have := places_get _ _ _ _ _ _ h
      cases this
      simp [place, f4]) parts.toList _ out z.cells (constCells_ok z) hf
    refine ⟨.agg vals', ?_, .agg h2⟩
    have hq : ((parts.map fun (x : Nat × Operand) => (x.1, a.eval x.2)).toList) = parts.toList.map fun p => (p.1, a.eval p.2) := by simp
    have h1' : Instr.fill (fun i => some (i * fi.size, fi.size)) z.cells ((parts.map fun (x : Nat × Operand) => (x.1, a.eval x.2)).toList) = some vals' := by rw [hq]; exact h1
    simp only [execOp, ho, Instr.build, Sem.run_bind, zeroValue_run hz, Result.andThen_ok, run_underlying g2, sizeOf_run f1]
    simp only [h1', Sem.run_pure, Result.andThen_ok]
theorem opok_buildSlice (hd : ∀ x, o.dst = some x → x < nt) (T : TypeId) (n : Nat) (parts : Array (Nat × Operand)) (ho : o.op = .buildSlice T n parts) (ti : TI) (ht : tiOf P T = some ti) (E : TypeId) (hsh : ti.sh = .slice E)
    (te : TI) (he : tiOf P E = some te) (hz : n * te.size = 0 ∨ ∃ z, zeroOf P E = some z) (hlim : n * te.size ≤ 2 ^ 24) (hpos : te.size ≠ 0)
    (out : List A) (hf : s.fill (places te.size E n 0) parts.toList (List.replicate (n * te.size) .any) = some out) (ys : List C) (hpk : s.pks out = some ys) (i : Nat)
    (hk : K (((s.frzs (owns out)).new i (.arr E te.size (chunk te.size n ys))).put o.dst (.one (.own i (s.N i))))) : OpOK B P nt w0 o s K := by
  intro a w ⟨gv, hs, hK⟩ Q
  obtain ⟨_, d, g1, g2, g3, g4, g5, g6, g7⟩ := tiOf_some ht
  obtain ⟨ie, de, f1, f2, f3, f4, f5, f6, f7⟩ := tiOf_some he
  have hd' := sh_slice (g7.symm.trans hsh)
  subst hd'
  have hzc : ∃ zc : Array Value, (n * ie.size = 0 ∧ zc = #[]) ∨ (n * ie.size ≠ 0 ∧ ∃ z, zeroOf P E = some z ∧ zc = z.cells) := by
    by_cases hq : n * ie.size = 0
    · exact ⟨#[], .inl ⟨hq, rfl⟩⟩
    · rcases hz with hz | ⟨z, hz⟩
      · exact absurd (by rw [← f4]; exact hz) hq
      · exact ⟨z.cells, .inr ⟨hq, z, hz, rfl⟩⟩
  obtain ⟨zc, hzc⟩ := hzc
  obtain ⟨vals', h1, h2⟩ := hs.fill (places te.size E n 0) (fun i => some (i * te.size, te.size)) (fun i off sz ft h => by
    have := places_get te.size E n 0 i _ h
    simp only [Prod.mk.injEq] at this
    rw [this.1, this.2.1]; simp) parts.toList _ out ((Array.range (n * te.size)).map fun j => zc[j % zc.size]!) (RepAs.any _ _ (by simp)) hf
  have hfl : ∀ (l : List (Nat × Operand)) (c o' : List A), s.fill (places te.size E n 0) l c = some o' → o'.length = c.length := by
    intro l
    induction l with
    | nil => intro c o' h; simp [AS.fill] at h; rw [h]
    | cons p r ih =>
      intro c o' h
      obtain ⟨q, x⟩ := p
      simp only [AS.fill] at h
      split at h
      · split at h
        · rename_i hc
          rw [ih _ _ h, spl_length _ _ _ (by omega)]
        · cases h
      · cases h
  have hol : out.length = n * te.size := by rw [hfl _ _ _ hf]; simp
  have hyl : ys.length = n * te.size := by rw [pks_length hpk, hol]
  have hv' : vals'.size = n * te.size := by have := h2.1; simp at this; omega
  have hcs := hs.pks (owns out) h2 hpk (fun p hp => hp)
  have hrun : (execOp a.eval o).run P w = .ok (.value (.slice (some ⟨w.heap.size, 0, none⟩) n n)) (w.alloc (.cells vals' E)) := by
    have hq : ((parts.map fun (x : Nat × Operand) => (x.1, a.eval x.2)).toList) = parts.toList.map fun p => (p.1, a.eval p.2) := by simp
    have h1' : Instr.fill (fun i => some (i * ie.size, ie.size)) ((Array.range (n * ie.size)).map fun j => zc[j % zc.size]!) ((parts.map fun (x : Nat × Operand) => (x.1, a.eval x.2)).toList) = some vals' := by
      rw [hq, ← f4]; exact h1
    simp only [execOp, ho, Instr.buildSlice, Sem.run_bind, run_underlying g2, Result.andThen_ok, sizeOf_run f1]
    rw [if_neg (by rw [← f4]; omega)]
    rcases hzc with ⟨hq0, rfl⟩ | ⟨hq0, z, hz', rfl⟩
    · rw [if_pos hq0]
      simp only [Sem.run_bind, Sem.run_pure, Result.andThen_ok, h1', newRow, run_newObj]
      rfl
    · rw [if_neg hq0]
      simp only [Sem.run_bind, Sem.run_pure, zeroValue_run hz', Result.andThen_ok, h1', newRow, run_newObj]
      rfl
  obtain ⟨hs1, hk1⟩ := hs.frzs (owns out)
  have hb : Below w.heap.size w (w.alloc (.cells vals' E)) := (Below.refl _ _).alloc (Nat.le_refl _) _
  obtain ⟨gv', hs', hk', hg⟩ := hs1.new hb i (.arr E te.size (chunk te.size n ys)) (.slice (some ⟨w.heap.size, 0, none⟩) n n) (by intro b hb'; simp [blkOf] at hb'; omega)
    (fun s' gv' hkeep hs' => by
      refine ⟨vals'.toList, chunk_size te.size n ys hyl, ?_, ?_, ?_⟩
      · rw [chunk_length]
        refine ⟨by simp [hv'], .inr ⟨w.heap.size, n, vals', rfl, Nat.zero_le _, heap_alloc_new w _, Nat.le_refl _, ?_, hv', ?_⟩⟩
        · have : n ≤ n * te.size := Nat.le_mul_of_pos_right _ (by omega)
          simp only [maxLen]
          omega
        · rw [← hv', ← Array.length_toList]; exact List.take_length
      · intro b hb'
        simp [blkOf] at hb'
        exact .inl (by have := hs.below.size; omega)
      · rw [chunk_flatten te.size n ys hyl]
        exact hkeep.cs hcs)
  unfold Oper.wp
  rw [hrun]
  refine ⟨_, hk, gv', hs'.put o.dst hd _ _ (.one (.own (by show s.N i < ((s.frzs (owns out)).new i _).N i; simp [AS.new, frzs_N]) (fun _ => by rw [frzs_N] at hg; exact hg.symm))), (hK.trans (hk1.trans hk')).putd _ _⟩
def AS.dst (s : AS) (E sz : Nat) : A → Option (List (List C) × List (Nat × Nat))
  | .nil => some ([], [])
  | .own h v => match s.H h v with
    | some (.arr E' sz' xs) => if E' = E ∧ sz' = sz then some (xs, [(h, v)]) else none
    | _ => none
  | _ => none
def AS.src (s : AS) : A → Option (List (List C))
  | .nil => some []
  | .c (.sl xs) => some xs
  | .own h v => match s.H h v with
    | some (.arr _ _ xs) => some xs
    | _ => none
  | _ => none
theorem SimG.src (hs : SimG B nt w0 s a w gv) {x : A} {v : Value} {xs : List (List C)} {sz : Nat} (hr : RepA B w s gv x v) (hx : s.src x = some xs) (hsz : ∀ y ∈ xs, y.length = sz) :
    (v = .slice none 0 0 ∧ xs = []) ∨ ∃ (ad : Addr) (cap : Nat) (vals : List Value), v = .slice (some ad) xs.length cap ∧ vals.length = xs.length * sz ∧ (∀ j u, vals[j]? = some u → w.cell? (ad.add j) = some u) ∧ (∀ u ∈ vals, u.oneCell' = true) ∧
      (∀ m, m < xs.length * sz → RepC w (okb B s gv) (fl xs m) (vals.getD m Go.undef)) := by
  cases hr with
  | nil => simp [AS.src] at hx; subst hx; exact .inl ⟨rfl, rfl⟩
  | @c x v hz =>
    cases x with
    | sl ys =>
      simp [AS.src] at hx
      subst hx
      cases hz with
      | nil => exact .inl ⟨rfl, rfl⟩
      | empty ad => exact .inr ⟨ad, 0, [], rfl, by simp, fun j u hj => by simp at hj, fun u hu => by simp at hu, fun m hm => by simp at hm⟩
      | sl _ b off cap sz' vals hok hb hle hm hsz' hc hv =>
        refine .inr ⟨⟨b, off, none⟩, cap, (List.range (ys.length * sz)).map vals, rfl, by simp, ?_, ?_, ?_⟩
        · intro j u hj
          simp only [List.getElem?_map, Option.map_eq_some_iff] at hj
          obtain ⟨j', hj', rfl⟩ := hj
          rcases Nat.lt_or_ge j (ys.length * sz) with hlt | hge
          · rw [List.getElem?_range hlt] at hj'
            cases hj'
            rw [addr_add]
            refine hc j ?_
            cases ys with
            | nil => simp at hlt
            | cons y ys' => rw [← hsz y (by simp), hsz' y (by simp)] at hlt; exact hlt
          · rw [List.getElem?_eq_none (by simpa using hge)] at hj'; cases hj'
        · intro u hu
          obtain ⟨m, hm', rfl⟩ := List.mem_map.1 hu
          have hm2 : m < ys.length * sz := by simpa using hm'
          refine (hv m ?_).oneCell
          cases ys with
          | nil => simp at hm2
          | cons y ys' => rw [← hsz y (by simp), hsz' y (by simp)] at hm2; exact hm2
        · intro m hm'
          rw [getD_map vals _ _ 0 _ (by simpa using hm')]
          have : (List.range (ys.length * sz)).getD m 0 = m := by rw [getD_lt _ _ _ (by simpa using hm')]; simp
          rw [this]
          refine hv m ?_
          cases ys with
          | nil => simp at hm'
          | cons y ys' => rw [← hsz y (by simp), hsz' y (by simp)] at hm'; exact hm'
    | _ => simp [AS.src] at hx
  | @own h u v hv hxx =>
    simp only [AS.src] at hx
    split at hx
    · rename_i E sz' ys hH
      cases hx
      have := hxx (by rw [hH]; simp)
      subst this
      obtain ⟨vals, hsz', hrow, _, hcs⟩ := hs.live h u _ hH
      rcases hrow.2 with ⟨hg, hn⟩ | ⟨g, cap, cur, hg, hbase, hheap, hlen, hcap, hcur, htake⟩
      · exact .inl ⟨hg, List.eq_nil_of_length_eq_zero hn⟩
      · have hmul : xs.length * sz' = xs.length * sz := by
          cases xs with
          | nil => simp
          | cons y ys' => rw [← hsz y (by simp), hsz' y (by simp)]
        have hfl : xs.flatten.length = xs.length * sz' := flatten_length hsz'
        refine .inr ⟨⟨g, 0, none⟩, cap, vals, hg, by rw [hcs.1, hfl, hmul], ?_, ?_, ?_⟩
        · intro j u hj
          rw [addr_add, Nat.zero_add, cell_of_row w g j cur E (0, 0) hheap]
          rw [← htake, List.getElem?_take] at hj
          split at hj
          · simpa using hj
          · cases hj
        · intro u hu
          obtain ⟨m, hm, rfl⟩ := List.getElem_of_mem hu
          have := hcs.2 m (by rw [← hcs.1]; exact hm)
          rw [getD_lt vals _ _ hm] at this
          exact this.oneCell
        · intro m hm
          unfold fl
          exact hcs.2 m (by rw [hfl, hmul]; exact hm)
    · cases hx
  | _ => simp [AS.src] at hx
theorem append_block (w : World) (base : Nat) (t ty e : TypeId) (i : TypeInfo) (z : Value) (ht : P.underlying t = some (.slice e)) (hi : P.info? e = some i) (hz : i.zero = some z)
    (v : Value) (n : Nat) (xs : List Value) (hown : w.ownsRow base e i.size v n xs)
    (a : Addr) (m c : Nat) (news : List Value) (hl : news.length = m * i.size) (hnews : ∀ j u, news[j]? = some u → w.cell? (a.add j) = some u) (h1 : ∀ u ∈ news, u.oneCell' = true)
    (h63 : n + m ≤ maxLen) (hbytes : (n + m) * i.bytes ≤ 140737488355328) {v' : Value} {w' : World} (hr : (Builtin.append_ #[t, t] ty #[v, .slice (some a) m c]).run P w = .ok v' w')
    (b : Nat) (hb : blkOf v' = some b) : w.heap.size ≤ b ∨ blkOf v = some b := by
  have hsmall : n + m ≤ 9223372036854775807 := by simp only [maxLen] at h63; omega
  rcases hown.2 with ⟨rfl, rfl⟩ | ⟨g, cap, cur, rfl, hbg, hg, hnc, hcm, hcs, htake⟩
  · by_cases hm : m = 0
    · subst hm
      have hn : news = [] := List.eq_nil_of_length_eq_zero (by simpa using hl)
      subst hn
      have hr' : (Builtin.append_ #[t, t] ty #[.slice none 0 0, .slice (some a) 0 c]).run P w = .ok (.slice none 0 0) w := by
        simp [Builtin.append_, run_underlying ht, sizeOf, typeInfo, hi, Builtin.lenOf, Builtin.firstCells, loadCells, loadCellsFrom]
      rw [hr'] at hr
      cases hr
      simp [blkOf] at hb
    · have hr' := run_append_nil (P := P) w t ty e i z ht hi hz a m c news hl hnews (by omega) (by omega) (by have hb := hbytes; simp only [Nat.zero_add] at hb; omega)
      rw [hr'] at hr
      cases hr
      left
      simp [blkOf] at hb
      omega
  · by_cases hroom : n + m ≤ cap
    · have hfit : n * i.size + news.length ≤ cur.size := by rw [hl, hcs, ← Nat.add_mul]; exact Nat.mul_le_mul_right _ hroom
      have hr' := run_append_room (P := P) w t ty e i ht hi g n cap cur hg a m c news hl hnews h1 hroom hfit
      rw [hr'] at hr
      cases hr
      right
      exact hb
    · have holds : ∀ j u, xs[j]? = some u → w.cell? ((⟨g, 0, none⟩ : Addr).add j) = some u := hown.cells (g := g) rfl
      have hr' := run_append_grow (P := P) w t ty e i z ht hi hz ⟨g, 0, none⟩ n cap xs hown.1 holds a m c news hl hnews (by omega) (by omega) (growslice_fits (by omega) hbytes)
      rw [hr'] at hr
      cases hr
      left
      simp [blkOf] at hb
      omega
theorem opok_append (hd : ∀ x, o.dst = some x → x < nt) (x y : Operand) (t : TypeId) (ho : o.op = .call ⟨.builtin .append, #[x, y], #[t, t]⟩) (ti : TI) (ht : tiOf P t = some ti) (E : TypeId) (hsh : ti.sh = .slice E)
    (te : TI) (he : tiOf P E = some te) (z : Value) (hz : zeroOf P E = some z) (hzs : z.cells.size = te.size) (hpos : 0 < te.size) (hby : 0 < te.bytes)
    (px py : A) (hx : s.ev x = .one px) (hy : s.ev y = .one py) (xs ys : List (List C)) (l : List (Nat × Nat)) (hdx : s.dst E te.size px = some (xs, l)) (hsy : s.src py = some ys) (hsz : ∀ y ∈ ys, y.length = te.size)
    (hlim : (xs.length + ys.length) * te.bytes ≤ 140737488355328) (i : Nat)
    (hk : K (((s.kills l).new i (.arr E te.size (xs ++ ys))).put o.dst (.one (.own i (s.N i))))) : OpOK B P nt w0 o s K := by
  intro a w ⟨gv, hs, hK⟩ Q
  obtain ⟨_, d, g1, g2, g3, g4, g5, g6, g7⟩ := tiOf_some ht
  obtain ⟨ie, de, f1, f2, f3, f4, f5, f6, f7⟩ := tiOf_some he
  have hd' := sh_slice (g7.symm.trans hsh)
  subst hd'
  have hxv := hs.ev x
  have hyv := hs.ev y
  rw [hx] at hxv
  rw [hy] at hyv
  generalize hev : a.eval x = v at hxv
  generalize heu : a.eval y = u at hyv
  cases hxv with | one hxv =>
  cases hyv with | one hyv =>
  have hzi : ie.zero = some z := by simpa [zeroOf, f1] using hz
  have hmax : xs.length + ys.length ≤ maxLen := by
    have : xs.length + ys.length ≤ (xs.length + ys.length) * te.bytes := Nat.le_mul_of_pos_right _ hby
    simp only [maxLen]
    omega
  -- the slice that grows
  have hdst : ∃ vals, (∀ y ∈ xs, y.length = te.size) ∧ w.ownsRow 0 E te.size v xs.length vals ∧ (∀ b, blkOf v = some b → w0.fr b) ∧ RepCs w (okb B s gv) xs.flatten vals ∧ (∀ p ∈ l, Ow (s.H p.1 p.2)) ∧
      (∀ b, b < w.heap.size → blkOf v = some b → ∃ p ∈ l, blkOf (gv p.1 p.2) = some b) := by
    cases hxv with
    | nil =>
      simp [AS.dst] at hdx
      obtain ⟨rfl, rfl⟩ := hdx
      exact ⟨[], by simp, World.ownsRow_nil _ _ _ _, by simp [blkOf], ⟨rfl, by simp⟩, by simp, by simp [blkOf]⟩
    | @own h t v hv hxx =>
      simp only [AS.dst] at hdx
      split at hdx
      · rename_i E' sz' xs' hH
        split at hdx
        · rename_i he'
          obtain ⟨rfl, rfl⟩ := he'
          simp only [Option.some.injEq, Prod.mk.injEq] at hdx
          obtain ⟨rfl, rfl⟩ := hdx
          have := hxx (by rw [hH]; simp)
          subst this
          obtain ⟨vals, hsz', hrow, hfr, hcs⟩ := hs.live h t _ hH
          exact ⟨vals, hsz', hrow, hfr, hcs, by simp [hH, Ow, Blk.ow], fun b _ hb => ⟨(h, t), by simp, hb⟩⟩
        · cases hdx
      · cases hdx
    | _ => simp [AS.dst] at hdx
  obtain ⟨vals, hxsz, hrow, hfr, hcs, hl, hblk⟩ := hdst
  have hall : ∀ y ∈ xs ++ ys, y.length = te.size := fun q hq => (List.mem_append.1 hq).elim (hxsz q) (hsz q)
  -- what the append does
  have key : ∃ (v' : Value) (w' : World) (vals2 : List Value), (execOp a.eval o).run P w = .ok (.value v') w' ∧ w'.ownsRow 0 E te.size v' (xs ++ ys).length (vals ++ vals2) ∧ w.grownBy w' v.ownBlock ∧
      (∀ b, blkOf v' = some b → w.heap.size ≤ b ∨ blkOf v = some b) ∧ RepCs w (okb B s gv) (xs ++ ys).flatten (vals ++ vals2) := by
    have hfx : xs.flatten.length = xs.length * te.size := flatten_length hxsz
    have hfy : ys.flatten.length = ys.length * te.size := flatten_length hsz
    rcases hs.src hyv hsy hsz with ⟨rfl, rfl⟩ | ⟨ad, cap, news, rfl, hnl, hnews, h1, hrep⟩
    · have hr := run_append_owned_none (P := P) (w := w) 0 t o.type E ie te.size g2 f1 v xs.length vals hrow
      refine ⟨v, w, [], ?_, by simpa using hrow, ⟨rfl, rfl, rfl, Nat.le_refl _, fun _ _ _ => rfl⟩, fun b hb => .inr hb, by simpa using hcs⟩
      rw [execOp_builtin a.eval o .append #[x, y] #[t, t] ho]
      simp [builtin, hev, heu, hr]
    · obtain ⟨v', w', hr, hown, hgrow, hnil⟩ := run_append_own (P := P) w 0 t o.type E ie z te.size te.bytes g2 f1 hzi f4.symm f5.symm hzs hpos v xs.length vals hrow ad ys.length cap news hnl hnews h1 hmax hlim (Nat.zero_le _)
      refine ⟨v', w', news, ?_, by rw [List.length_append]; exact hown, hgrow, ?_, ?_⟩
      · rw [execOp_builtin a.eval o .append #[x, y] #[t, t] ho]
        simp [builtin, hev, heu, hr]
      · intro b hb
        exact append_block (P := P) w 0 t o.type E ie z g2 f1 hzi v xs.length vals (by rw [← f4]; exact hrow) ad ys.length cap news (by rw [← f4]; exact hnl) hnews h1 hmax (by rw [← f5]; exact hlim) hr b hb
      · refine ⟨by simp only [List.flatten_append, List.length_append, hcs.1, hnl, hfy], fun m hm => ?_⟩
        rw [List.flatten_append, List.length_append, hfx, hfy] at hm
        rw [List.flatten_append]
        by_cases hlt : m < xs.length * te.size
        · rw [getD_app_l _ _ _ _ (by rw [hfx]; exact hlt), getD_app_l _ _ _ _ (by rw [hcs.1, hfx]; exact hlt)]
          exact hcs.2 m (by rw [hfx]; exact hlt)
        · rw [getD_app_r _ _ _ _ (by rw [hfx]; omega), getD_app_r _ _ _ _ (by rw [hcs.1, hfx]; omega), hcs.1, hfx]
          have := hrep (m - xs.length * te.size) (by omega)
          unfold fl at this
          exact this
  obtain ⟨v', w', vals2, hrun, hown, hgrow, hvb, hcs2⟩ := key
  obtain ⟨gv', hs', hk', hg⟩ := hs.renew l hl i (.arr E te.size (xs ++ ys)) v' hgrow.os hgrow.tape hgrow.output hgrow.size
    (fun b hlt hp => hgrow.block b hlt (fun e => by
      obtain ⟨p, hpl, hpb⟩ := hblk b hlt (blkOf_ownBlock e.symm)
      exact hp p hpl hpb))
    (fun b hb => (hvb b hb).elim .inl (fun e => by
      rcases Nat.lt_or_ge b w.heap.size with hlt | hge
      · exact .inr (hblk b hlt e)
      · exact .inl hge))
    (fun s' gv' hkeep _ => ⟨vals ++ vals2, hall, hown, fun b hb => (hvb b hb).elim (fun h => .inl (Nat.le_trans hs.below.size h)) (fun h => hfr b h), hkeep.cs hcs2⟩)
  unfold Oper.wp
  rw [hrun]
  refine ⟨_, hk, gv', hs'.put o.dst hd _ _ (.one (.own (by show s.N i < ((s.kills l).new i _).N i; simp [AS.new, kills_N]) (fun _ => hg.symm))), (hK.trans hk').putd _ _⟩
end
end Go.AV
end
