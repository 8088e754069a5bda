/- Texts Av23. -/
import Derived.WideShapes
import Derived.ChangeArms
import Derived.SizedLaws
import Derived.Test.YtlgnflbekdldnaaGreatDoorAvK23
set_option linter.unusedVariables false
set_option linter.unusedSimpArgs false
set_option linter.unusedSectionVars false
noncomputable section
namespace Go.AV
open Go.RowKit Go.WideShapes
section
variable {P : Program} {w : World} {H : Type} {enc : TypeId × Value → H} {n : Nat} {t e : TypeId} {X Y : Type} {f : X → List C} {g : X → Prop}
def allOk (_ : Nat) : Prop := True
def Opens (enc : TypeId × Value → H) (P : Program) (w : World) (n : Nat) (t : TypeId) (f : X → List C) (g : X → Prop) : Prop :=
  ∀ fuel, fuel < n → ∀ (cs : List Value) (x : DataW H × List MemPlace), DataW.trod enc P w 0 (fun _ => true) true fuel t cs = some x → (∀ y ∈ x.1.weights P t, y ≤ reachBytes) →
    ∃ z, RepCs w allOk (f z) cs ∧ g z
theorem Opens.le {m : Nat} (h : Opens enc P w n t f g) (hm : m ≤ n) : Opens enc P w m t f g := fun fuel hf => h fuel (by omega)
theorem Opens.to {f' : Y → List C} {g' : Y → Prop} (h : Opens enc P w n t f g) (φ : X → Y) (hc : ∀ x, f' (φ x) = f x) (hg : ∀ x, g x → g' (φ x)) : Opens enc P w n t f' g' := by
  intro fuel hf cs x hx hw
  obtain ⟨z, h1, h2⟩ := h fuel hf cs x hx hw
  exact ⟨φ z, by rw [hc]; exact h1, hg z h2⟩
theorem RepCs.one {ok : Nat → Prop} {c : C} {v : Value} (h : RepC w ok c v) : RepCs w ok [c] [v] := ⟨rfl, fun m hm => by
  have : m = 0 := by simpa using hm
  subst this
  exact h⟩
theorem wf_wrap {k : IntKind} {m : Int} (h : (Lit.int k m).wf = true) : k.wrap m = m := by
  simp only [Lit.wf, Bool.and_eq_true, decide_eq_true_eq] at h
  refine (wrap_iff k m).2 ?_
  cases k <;> simpa [lo, hi, IntKind.min, IntKind.max, IntKind.signed, IntKind.bits] using h
theorem opens_int {k : IntKind} (ht : P.underlying t = some (.int k)) : Opens enc P w n t (fun m : Int => [.int k m]) (fun m => k.wrap m = m) := by
  intro fuel _ cs x hx _
  obtain ⟨m, rfl, _, hw⟩ := DataW.trod_int ht hx
  exact ⟨m, .one (.int k m (wf_wrap hw)), wf_wrap hw⟩
theorem opens_bool (ht : P.underlying t = some .bool) : Opens enc P w n t (fun b : Bool => [.bool b]) (fun _ => True) := by
  intro fuel _ cs x hx _
  obtain ⟨b, rfl, _⟩ := DataW.trod_bool ht hx
  exact ⟨b, .one (.bool b), trivial⟩
theorem opens_string (ht : P.underlying t = some .string) : Opens enc P w n t (fun z : ByteArray => [.str z]) (fun z => z.size ≤ reachBytes) := by
  intro fuel _ cs x hx hw
  obtain ⟨z, rfl, rfl, hm⟩ := DataW.trod_string ht hx
  refine ⟨z, .one (.str z hm), ?_⟩
  have := hw z.data.toList.length (by simp [DataW.weights])
  rw [Array.length_toList] at this
  exact this
theorem weightsAll_mem {l : List (DataW H)} {d : DataW H} (hd : d ∈ l) {y : Nat} (hy : y ∈ d.weights P e) : y ∈ DataW.weightsAll P e l := by
  induction l with
  | nil => cases hd
  | cons a l ih =>
    simp only [DataW.weightsAll, List.mem_append]
    rcases List.mem_cons.1 hd with rfl | h
    · exact .inl hy
    · exact .inr (ih h)
theorem cells?_get {a : Addr} {k : Nat} {cs : List Value} (h : w.cells? 0 a k = some cs) : cs.length = k ∧ ∀ j, j < k → w.cell? (a.add j) = cs[j]? := by
  unfold World.cells? at h
  rw [if_pos (Nat.zero_le _)] at h
  refine ⟨by simpa using mapM_some_length h, fun j hj => mapM_some_get h j j (by simp [hj])⟩
theorem cell?_spot {a : Addr} {v : Value} (h : w.cell? a = some v) : a.spot = none ∧ a.block < w.heap.size := by
  unfold World.cell? at h
  split at h
  · rename_i c _ _ hc
    have hlt : a.block < w.heap.size := by
      rcases Nat.lt_or_ge a.block w.heap.size with h | h
      · exact h
      · rw [Array.getElem?_eq_none h] at hc; cases hc
    split at h
    · cases h
    · rename_i hs
      exact ⟨by simpa using hs, hlt⟩
  · cases h
theorem opens_slice (ht : P.underlying t = some (.slice e)) (hpos : 0 < P.cellsOf e) (hlen : ∀ z, (f z).length = P.cellsOf e) (he : Opens enc P w n e f g) :
    Opens enc P w (n + 1) t (fun zs : List X => [.sl (zs.map f)]) (fun zs => (∀ z ∈ zs, g z) ∧ zs.length * P.bytesOf e ≤ reachBytes) := by
  intro fuel hfu cs x hx hw
  rcases DataW.trod_slice ht hx with ⟨rfl, rfl⟩ | ⟨a, len, cap, elems, rest, m, rfl, rfl, rfl, _, hlc, hcm, hel, hget, hsp, _⟩
  · exact ⟨[], .one .nil, by simp, by simp⟩
  · obtain ⟨hrl, hrest⟩ := hsp rfl
    have hwt : ∀ y, (y = (elems.length + rest.length) * P.bytesOf e ∨ y ∈ DataW.weightsAll P e (elems.map (·.1))) → y ≤ reachBytes := by
      intro y hy
      apply hw
      simp only [DataW.weights, ht]
      rcases hy with rfl | hy
      · simp
      · simp [hy]
    have h0 : cap ≠ 0 → a.spot = none ∧ a.block < w.heap.size := by
      intro hc
      have hz : ∃ cz, w.cells? 0 (a.add 0) (P.cellsOf e) = some cz := by
        by_cases hl : 0 < len
        · have h1 := hget 0 hl
          rw [List.getElem?_eq_getElem (by omega)] at h1
          obtain ⟨cz, h2, _⟩ := Option.bind_eq_some_iff.1 h1
          exact ⟨cz, by simpa using h2⟩
        · have h1 := hrest 0 (by omega)
          rw [List.getElem?_eq_getElem (by omega)] at h1
          obtain ⟨cz, h2, _⟩ := Option.bind_eq_some_iff.1 h1
          have e0 : len = 0 := by omega
          subst e0
          exact ⟨cz, by simpa using h2⟩
      obtain ⟨cz, hz⟩ := hz
      have h3 := (cells?_get hz)
      have h4 := h3.2 0 hpos
      rw [List.getElem?_eq_getElem (by omega)] at h4
      have h5 := cell?_spot h4
      simpa [Addr.add] using h5
    have each : ∀ i : Fin len, ∃ z csi, w.cells? 0 (a.add (i.1 * P.cellsOf e)) (P.cellsOf e) = some csi ∧ RepCs w allOk (f z) csi ∧ g z := by
      intro i
      have h1 := hget i.1 i.2
      have hlt : i.1 < elems.length := by omega
      rw [List.getElem?_eq_getElem hlt] at h1
      obtain ⟨csi, h2, h3⟩ := Option.bind_eq_some_iff.1 h1
      obtain ⟨z, h4, h5⟩ := he m (by omega) csi _ h3 (fun y hy => hwt y (.inr (weightsAll_mem (List.mem_map.2 ⟨_, List.getElem_mem hlt, rfl⟩) hy)))
      exact ⟨z, csi, h2, h4, h5⟩
    let zs : List X := List.ofFn fun i : Fin len => Classical.choose (each i)
    have hzl : zs.length = len := by simp [zs]
    have hzi : ∀ i (hi : i < len), zs[i]'(by omega) = Classical.choose (each ⟨i, hi⟩) := by intro i hi; simp [zs]
    have hgood : (∀ z ∈ zs, g z) ∧ zs.length * P.bytesOf e ≤ reachBytes := by
      constructor
      · intro z hz
        obtain ⟨i, hi, rfl⟩ := List.mem_iff_getElem.1 hz
        rw [hzi i (by omega)]
        obtain ⟨_, _, _, h⟩ := Classical.choose_spec (each ⟨i, by omega⟩)
        exact h
      · have := hwt _ (.inl rfl)
        have h2 : zs.length * P.bytesOf e ≤ (elems.length + rest.length) * P.bytesOf e := Nat.mul_le_mul_right _ (by omega)
        omega
    refine ⟨zs, .one ?_, hgood⟩
    by_cases hc0 : cap = 0
    · have e0 : len = 0 := by omega
      have : zs = [] := List.eq_nil_of_length_eq_zero (by omega)
      rw [this, hc0, e0]
      exact .empty a
    · obtain ⟨hsn, hbl⟩ := h0 hc0
      obtain ⟨b, off, spot⟩ := a
      simp only at hsn hbl
      subst hsn
      have hml : (zs.map f).length = len := by simp [hzl]
      have key : ∀ i (hi : i < len), ∀ j, j < P.cellsOf e → ∃ v, w.cell? ⟨b, off + (i * P.cellsOf e + j), none⟩ = some v ∧ RepC w allOk (fl (zs.map f) (i * P.cellsOf e + j)) v := by
        intro i hi j hj
        obtain ⟨csi, h1, h2, _⟩ := Classical.choose_spec (each ⟨i, hi⟩)
        rw [← hzi i hi] at h2
        obtain ⟨h3, h4⟩ := cells?_get h1
        have h5 := h4 j hj
        simp only [addr_add] at h5
        have hjl : j < csi.length := by omega
        refine ⟨csi[j], by rw [← Nat.add_assoc, h5, List.getElem?_eq_getElem hjl], ?_⟩
        rw [flatten_getD (sz := P.cellsOf e) (fun y hy => by obtain ⟨z, _, rfl⟩ := List.mem_map.1 hy; exact hlen z) i j (by omega) hj]
        have h6 := h2.2 j (by rw [hlen]; exact hj)
        have e1 : (zs.map f).getD i [] = f (zs[i]'(by omega)) := by
          rw [getD_lt _ _ _ (by omega)]; simp
        rw [e1]
        rw [getD_lt csi _ j hjl] at h6
        exact h6
      have split : ∀ m', m' < len * P.cellsOf e → ∃ i j, i < len ∧ j < P.cellsOf e ∧ m' = i * P.cellsOf e + j := by
        intro m' hm'
        refine ⟨m' / P.cellsOf e, m' % P.cellsOf e, (Nat.div_lt_iff_lt_mul hpos).2 hm', Nat.mod_lt _ hpos, ?_⟩
        rw [Nat.mul_comm]; exact (Nat.div_add_mod _ _).symm
      have hfin := RepC.sl (w := w) (ok := allOk) (zs.map f) b off cap (P.cellsOf e) (fun m' => (w.cell? ⟨b, off + m', none⟩).getD undef) trivial hbl (by omega) hcm
        (fun y hy => by obtain ⟨z, _, rfl⟩ := List.mem_map.1 hy; exact hlen z)
        (fun m' hm' => by
          rw [hml] at hm'
          obtain ⟨i, j, hi, hj, rfl⟩ := split m' hm'
          obtain ⟨v, h1, _⟩ := key i hi j hj
          rw [h1]; rfl)
        (fun m' hm' => by
          rw [hml] at hm'
          obtain ⟨i, j, hi, hj, rfl⟩ := split m' hm'
          obtain ⟨v, h1, h2⟩ := key i hi j hj
          simp only [h1, Option.getD_some]
          exact h2)
      rw [hml] at hfin
      exact hfin
def OpensF (enc : TypeId × Value → H) (P : Program) (w : World) (n off : Nat) (fs : List Field) (f : X → List C) (g : X → Prop) : Prop :=
  ∀ fuel, fuel < n → ∀ (cs : List Value) (xs : List (DataW H × List MemPlace)), xs.length = fs.length →
    (∀ (i : Nat) (fd : Field), fs[i]? = some fd → DataW.trod enc P w 0 (fun _ => true) true fuel fd.type ((cs.drop fd.offset).take (P.cellsOf fd.type)) = xs[i]?) →
    (∀ y ∈ DataW.weightsEach P (fs.map (·.type)) (xs.map (·.1)), y ≤ reachBytes) → ∃ z, RepCs w allOk (f z) ((cs.drop off).take (f z).length) ∧ g z
theorem RepCs.app {ok : Nat → Prop} {a b : List C} {vs us : List Value} (h : RepCs w ok a vs) (h2 : RepCs w ok b us) : RepCs w ok (a ++ b) (vs ++ us) := by
  refine ⟨by simp [h.1, h2.1], fun m hm => ?_⟩
  by_cases hl : m < a.length
  · rw [getD_app_l _ _ _ _ hl, getD_app_l _ _ _ _ (by rw [h.1]; exact hl)]
    exact h.2 m hl
  · rw [getD_app_r _ _ _ _ (by omega), getD_app_r _ _ _ _ (by rw [h.1]; omega), h.1]
    exact h2.2 _ (by simp at hm; omega)
theorem opensF_nil {off : Nat} : OpensF enc P w n off [] (fun _ : Unit => []) (fun _ => True) := by
  intro fuel _ cs xs _ _ _
  exact ⟨(), ⟨by simp, fun m hm => by simp at hm⟩, trivial⟩
theorem opensF_cons {off : Nat} {fd : Field} {fs : List Field} {f' : Y → List C} {g' : Y → Prop} (hoff : fd.offset = off) (hlen : ∀ z, (f z).length = P.cellsOf fd.type) (h : Opens enc P w n fd.type f g)
    (hr : OpensF enc P w n (off + P.cellsOf fd.type) fs f' g') : OpensF enc P w n off (fd :: fs) (fun z : X × Y => f z.1 ++ f' z.2) (fun z => g z.1 ∧ g' z.2) := by
  intro fuel hf cs xs hxl hx hw
  cases xs with
  | nil => simp at hxl
  | cons x xs =>
    simp only [List.map_cons, DataW.weightsEach, List.mem_append] at hw
    have h1 := hx 0 fd rfl
    obtain ⟨z1, p1, q1⟩ := h fuel hf _ x h1 (fun y hy => hw y (.inl hy))
    obtain ⟨z2, p2, q2⟩ := hr fuel hf cs xs (by simpa using hxl) (fun i fd' hi => hx (i + 1) fd' hi) (fun y hy => hw y (.inr hy))
    refine ⟨(z1, z2), ?_, q1, q2⟩
    rw [hoff] at p1
    have := p1.app p2
    rw [← List.drop_drop] at this
    rw [List.length_append, hlen, List.take_add]
    exact this
theorem opens_struct {fs : Array Field} (ht : P.underlying t = some (.struct fs)) (hlen : ∀ z, (f z).length = P.cellsOf t) (h : OpensF enc P w n 0 fs.toList f g) : Opens enc P w (n + 1) t f g := by
  intro fuel hf cs x hx hw
  obtain ⟨xs, m, rfl, rfl, hl, hxl, hget⟩ := DataW.trod_struct ht hx
  obtain ⟨z, h1, h2⟩ := h m (by omega) cs xs (by simpa using hxl) (fun i fd hi => hget i fd (by simpa using hi)) (fun y hy => hw y (by simp only [DataW.weights, ht]; exact hy))
  refine ⟨z, ?_, h2⟩
  rw [List.drop_zero, hlen, ← hl, List.take_length] at h1
  exact h1
theorem opensF_c {off k : Nat} {fd : Field} {fs : List Field} {f' : Y → List C} {g' : Y → Prop} (hk : P.cellsOf fd.type = k) (hoff : fd.offset = off) (hlen : ∀ z, (f z).length = k) (h : Opens enc P w n fd.type f g)
    (hr : OpensF enc P w n (off + k) fs f' g') : OpensF enc P w n off (fd :: fs) (fun z : X × Y => f z.1 ++ f' z.2) (fun z => g z.1 ∧ g' z.2) := by
  subst hk
  exact opensF_cons hoff hlen h hr
theorem opens_sl {c k : Nat} (ht : P.underlying t = some (.slice e)) (hc : P.cellsOf e = c) (hb : P.bytesOf e = k) (hpos : 0 < c) (hlen : ∀ z, (f z).length = c) (he : Opens enc P w n e f g) :
    Opens enc P w n t (fun zs : List X => [.sl (zs.map f)]) (fun zs => (∀ z ∈ zs, g z) ∧ zs.length * k ≤ reachBytes) := by
  subst hc hb
  exact (opens_slice ht hpos hlen he).le (Nat.le_succ n)
theorem opens_st {fs : Array Field} {k : Nat} (ht : P.underlying t = some (.struct fs)) (hc : P.cellsOf t = k) (h : OpensF enc P w n 0 fs.toList f g) (hlen : ∀ z, (f z).length = k) : Opens enc P w (n + 1) t f g :=
  opens_struct ht (fun z => (hlen z).trans hc.symm) h
theorem opens_zero : Opens enc P w 0 t f g := fun fuel h => by omega
theorem arg_agg {fs : Array Field} {v : Value} {d : DataW H} {ps : List MemPlace} {base : Nat} (ht : P.underlying t = some (.struct fs)) (h : ∀ n, Opens enc P w n t f g) (hv : Value.okWide P w .any base t v)
    (hd : DataW.Trod enc P w 0 (fun _ => true) true t v d ps) (hw : ∀ y ∈ d.weights P t, y ≤ reachBytes) : ∃ z, RepDV w allOk (.agg (f z)) v ∧ g z := by
  obtain ⟨cs, rfl, _⟩ := okWide_struct ht hv
  obtain ⟨fuel, hf⟩ := hd
  obtain ⟨z, h1, h2⟩ := h (fuel + 1) fuel (by omega) _ _ hf hw
  exact ⟨z, ⟨cs, rfl, h1⟩, h2⟩
theorem arg_one {v : Value} {d : DataW H} {ps : List MemPlace} {c : X → C} (h : ∀ n, Opens enc P w n t (fun z => [c z]) g) (hv : v.cells.toList = [v])
    (hd : DataW.Trod enc P w 0 (fun _ => true) true t v d ps) (hw : ∀ y ∈ d.weights P t, y ≤ reachBytes) : ∃ z, RepDV w allOk (.one (c z)) v ∧ g z := by
  obtain ⟨fuel, hf⟩ := hd
  obtain ⟨z, h1, h2⟩ := h (fuel + 1) fuel (by omega) _ _ hf hw
  rw [hv] at h1
  exact ⟨z, h1.2 0 (by simp), h2⟩
theorem cells_int {k : IntKind} {v : Value} {base : Nat} (ht : P.underlying t = some (.int k)) (hv : Value.okWide P w .any base t v) : v.cells.toList = [v] := by
  obtain ⟨m, rfl⟩ := okWide_int ht hv; rfl
theorem cells_string {v : Value} {base : Nat} (ht : P.underlying t = some .string) (hv : Value.okWide P w .any base t v) : v.cells.toList = [v] := by
  obtain ⟨m, rfl⟩ := okWide_string ht hv; rfl
theorem cells_slice {v : Value} {base : Nat} (ht : P.underlying t = some (.slice e)) (hv : Value.okWide P w .any base t v) : v.cells.toList = [v] := by
  obtain ⟨a, len, cap, rfl⟩ := okWide_slice ht hv; rfl
theorem spec_true {f : FuncId} {args : List DV} {vs : List Value} (h : AV.Spec P f args [.one (.c (.bool true))]) (hr : RepDVs w allOk args vs) (hI : Inv P w allOk) :
    Calls P f vs.toArray w fun e w' => e = .returned (.bool true) ∧ Below w.heap.size w w' := by
  refine (h.2 w allOk vs hr hI).mono fun e w' hh => ?_
  obtain ⟨v, rfl, hb, us, cs, rfl, hf, hrr⟩ := hh
  refine ⟨?_, hb⟩
  cases us with
  | nil => simp [fitsAll] at hf
  | cons u us =>
    cases us with
    | cons u2 us => simp [fitsAll] at hf
    | nil =>
      obtain ⟨_, h2, _⟩ := hrr
      simp only [fitsAll, RV.fits] at hf
      obtain ⟨c1, c2, h3, h4, h5⟩ := hf
      have := h2 0 (by simp [RV.cells])
      simp only [h3, h4, h5] at this
      have h6 : RepC w' _ (.bool true) u := this
      cases h6
      rfl
theorem RepDVs.nil {ok : Nat → Prop} : RepDVs w ok [] [] := ⟨rfl, fun m hm => by simp at hm⟩
theorem RepDVs.cons {ok : Nat → Prop} {d : DV} {ds : List DV} {v : Value} {vs : List Value} (h : RepDV w ok d v) (h2 : RepDVs w ok ds vs) : RepDVs w ok (d :: ds) (v :: vs) :=
  ⟨by simp [h2.1], fun m hm => by
    cases m with
    | zero => exact h
    | succ m => exact h2.2 m (by simpa using hm)⟩
end
end Go.AV
end
