/- Texts Av11. -/
import Derived.Test.YtlgnflbekdldnaaGreatDoorAvK10
set_option linter.unusedVariables false
set_option linter.unusedSimpArgs false
set_option linter.unusedSectionVars false
noncomputable section
namespace Go.AV
open Go.RowKit
section
variable {B : Nat → Prop} {nt : Nat} {w0 : Base} {w : World} {s : AS} {a : Act} {gv : GV} {P : Program} {o : Oper} {K : AS → Prop} [InvC P B w0]
def C.flat : C → Bool
  | .bool _ | .int _ _ | .str _ => true
  | .sl [] => true
  | _ => false
theorem RepC.ofFlat {ok ok' : Nat → Prop} {x : C} {v : Value} (h : RepC w ok x v) (hf : x.flat = true) (hok : ∀ b, ok b → ok' b ∨ True) : x = .sl [] ∨ RepC w ok' x v := by
  cases h with
  | bool => exact .inr (.bool _)
  | int _ _ h => exact .inr (.int _ _ h)
  | str _ h => exact .inr (.str _ h)
  | nil => exact .inr .nil
  | empty a => exact .inr (.empty a)
  | sl xs => cases xs with
    | nil => exact .inl rfl
    | cons => simp [C.flat] at hf
  | _ => simp [C.flat] at hf
def R.flat : R → Prop
  | .c x => x.flat = true ∧ x ≠ .sl []
  | .own _ _ xs => ∀ x ∈ xs, ∀ c ∈ x, c.flat = true ∧ c ≠ .sl []
def AS.callee (s : AS) : A → Option (FuncId × List C)
  | .fn f caps => (s.views 3 caps).map fun cs => (f, cs)
  | .c (.fn f cs) => some (f, cs)
  | _ => none
def AS.lentF (s : AS) : A → List (Nat × Nat)
  | .fn _ caps => s.lents 3 caps
  | _ => []
theorem SimG.callee (hs : SimG B nt w0 s a w gv) (l : List (Nat × Nat)) {x : A} {v : Value} {f : FuncId} {cs : List C} (hr : RepA B w s gv x v) (hc : s.callee x = some (f, cs)) (hl : ∀ p ∈ s.lentF x, p ∈ l) :
    ∃ vs : Array Value, v = .func (.func f) #[] vs ∧ RepDVs w (lentOk B s gv l) (cs.map .one) vs.toList := by
  cases hr with
  | @fn f' caps vs hn hv =>
    simp only [AS.callee, Option.map_eq_some_iff, Prod.mk.injEq] at hc
    obtain ⟨cs', hcs', rfl, rfl⟩ := hc
    obtain ⟨e1, e2⟩ := (hs.view_aux l 3).2 _ _ hcs'
    refine ⟨vs, rfl, by simp [hn, e1], fun m hm => ?_⟩
    have hm' : m < caps.length := by simp at hm; omega
    obtain ⟨q1, q2⟩ := e2 m hm'
    rw [getD_map DV.one _ _ C.junk _ (by omega)]
    have hq := (hs.view_aux l 3).1 _ _ _ (hv m hm') q1 (fun p hp => hl p (q2 p hp))
    have : vs.toList.getD m Go.undef = vs.getD m Go.undef := by simp [Array.getD_eq_getD_getElem?, List.getD_eq_getElem?_getD]
    rw [this]
    exact hq
  | @c x v hx =>
    cases hx with
    | fn f' caps vs hn hv =>
      simp only [AS.callee, Option.some.injEq, Prod.mk.injEq] at hc
      obtain ⟨rfl, rfl⟩ := hc
      refine ⟨vs, rfl, by simp [hn], fun m hm => ?_⟩
      have hm' : m < caps.length := by simpa using hm
      rw [getD_map DV.one _ _ C.junk _ hm']
      have : vs.toList.getD m Go.undef = vs.getD m Go.undef := by simp [Array.getD_eq_getD_getElem?, List.getD_eq_getElem?_getD]
      rw [this]
      exact (hv m hm').mono (fun b _ hb => lentOk_of hb) (Nat.le_refl _) (fun _ _ _ => rfl)
    | _ => simp [AS.callee] at hc
  | _ => simp [AS.callee] at hc
theorem RepDVs.append {ok : Nat → Prop} {ds es : List DV} {vs us : List Value} (h : RepDVs w ok ds vs) (k : RepDVs w ok es us) : RepDVs w ok (ds ++ es) (vs ++ us) := by
  refine ⟨by simp [h.1, k.1], fun m hm => ?_⟩
  by_cases hlt : m < ds.length
  · rw [getD_app_l _ _ _ _ hlt, getD_app_l _ _ _ _ (by rw [h.1]; exact hlt)]
    exact h.2 m hlt
  · rw [getD_app_r _ _ _ _ (by omega), getD_app_r _ _ _ _ (by rw [h.1]; omega), h.1]
    exact k.2 _ (by simp at hm; omega)
theorem ownsRow_base {base base' : Nat} {e : TypeId} {size : Nat} {v : Value} {n : Nat} {xs : List Value} (h : w.ownsRow base e size v n xs) (hb : base' ≤ base) : w.ownsRow base' e size v n xs := by
  refine ⟨h.1, ?_⟩
  rcases h.2 with hn | ⟨g, cap, cur, hg, hbase, rest⟩
  · exact .inl hn
  · exact .inr ⟨g, cap, cur, hg, Nat.le_trans hb hbase, rest⟩
theorem own_blk {w1 : World} {base : Nat} {e : TypeId} {size : Nat} {v : Value} {n : Nat} {xs : List Value} (h : w1.ownsRow base e size v n xs) {b : Nat} (hb : blkOf v = some b) : v.ownBlock = some b ∧ base ≤ b := by
  rcases h.2 with ⟨rfl, _⟩ | ⟨g, cap, cur, rfl, hbase, _⟩
  · simp [blkOf] at hb
  · obtain rfl : g = b := by simpa [blkOf] using hb
    exact ⟨rfl, hbase⟩
theorem cellsR_ok (s1 : AS) {w' : World} {s' : AS} {gv' : GV} {ok : Nat → Prop} : ∀ (rs : List R) (base : Nat) (vs : List Value),
    vs.length = rs.length →
    (∀ m, m < rs.length → ∀ x, rs.getD m (.c .junk) = .c x → RepC w' (okb B s' gv') x (vs.getD m Go.undef)) →
    (∀ m, m < rs.length → ∀ E sz xs, rs.getD m (.c .junk) = .own E sz xs → s1.N (base + m) < s'.N (base + m) ∧ gv' (base + m) (s1.N (base + m)) = vs.getD m Go.undef) →
    RepAs B w' s' gv' (s1.cellsR base rs) vs := by
  intro rs
  induction rs with
  | nil => intro base vs hn h1 h2; exact ⟨by simpa [AS.cellsR] using hn, fun m hm => by simp [AS.cellsR] at hm⟩
  | cons r rs ih =>
    intro base vs hn h1 h2
    cases vs with
    | nil => simp at hn
    | cons v vs =>
      obtain ⟨q1, q2⟩ := ih (base + 1) vs (by simpa using hn) (fun m hm x hx => by simpa using h1 (m + 1) (by simpa using hm) x (by simpa using hx))
        (fun m hm E sz xs hx => by
          have := h2 (m + 1) (by simpa using hm) E sz xs (by simpa using hx)
          rw [show base + (m + 1) = base + 1 + m by omega] at this
          simpa using this)
      cases r with
      | c x =>
        refine ⟨by simp [AS.cellsR, q1], fun m hm => ?_⟩
        cases m with
        | zero => exact .c (by simpa using h1 0 (by simp) x rfl)
        | succ m => simpa [AS.cellsR] using q2 m (by simpa [AS.cellsR] using hm)
      | own E sz xs =>
        refine ⟨by simp [AS.cellsR, q1], fun m hm => ?_⟩
        cases m with
        | zero =>
          obtain ⟨e1, e2⟩ := h2 0 (by simp) E sz xs rfl
          exact .own (by simpa using e1) (fun _ => by simpa using e2.symm)
        | succ m => simpa [AS.cellsR] using q2 m (by simpa [AS.cellsR] using hm)
theorem cellsR_length (s1 : AS) : ∀ (rs : List R) (base : Nat), (s1.cellsR base rs).length = rs.length
  | [], _ => rfl
  | .c _ :: rs, base => by simp [AS.cellsR, cellsR_length s1 rs]
  | .own _ _ _ :: rs, base => by simp [AS.cellsR, cellsR_length s1 rs]
theorem cellsR_append (s1 : AS) : ∀ (rs rs' : List R) (base : Nat), s1.cellsR base (rs ++ rs') = s1.cellsR base rs ++ s1.cellsR (base + rs.length) rs'
  | [], rs', base => by simp [AS.cellsR]
  | .c x :: rs, rs', base => by
    simp only [List.cons_append, AS.cellsR, List.length_cons, cellsR_append s1 rs rs']
    rw [show base + 1 + rs.length = base + (rs.length + 1) by omega]
  | .own E sz xs :: rs, rs', base => by
    simp only [List.cons_append, AS.cellsR, List.length_cons, cellsR_append s1 rs rs']
    rw [show base + 1 + rs.length = base + (rs.length + 1) by omega]
theorem RepAs.split {xs ys : List A} {cs : List Value} (h : RepAs B w s gv (xs ++ ys) cs) {c1 c2 : List Value} (hc : cs = c1 ++ c2) (hn : c1.length = xs.length) : RepAs B w s gv xs c1 ∧ RepAs B w s gv ys c2 := by
  subst hc
  have hl := h.1
  simp only [List.length_append] at hl
  refine ⟨⟨hn, fun m hm => ?_⟩, ⟨by omega, fun m hm => ?_⟩⟩
  · have := h.2 m (by simp; omega)
    rwa [getD_app_l _ _ _ _ hm, getD_app_l _ _ _ _ (by omega)] at this
  · have := h.2 (xs.length + m) (by simp; omega)
    rwa [getD_app_r _ _ _ _ (by omega), getD_app_r _ _ _ _ (by omega), Nat.add_sub_cancel_left, hn, Nat.add_sub_cancel_left] at this
theorem avR_ok (s1 : AS) : ∀ (res : List RV) (base : Nat) (vs cs : List Value), fitsAll res vs cs → RepAs B w s gv (s1.cellsR base (res.flatMap RV.cells)) cs →
    vs.length = (s1.avR base res).length ∧ ∀ m, m < (s1.avR base res).length → RepAV B w s gv ((s1.avR base res).getD m .undef) (vs.getD m Go.undef) := by
  intro res
  induction res with
  | nil =>
    intro base vs cs hf h
    cases vs with
    | nil => exact ⟨rfl, fun m hm => by simp [AS.avR] at hm⟩
    | cons => simp [fitsAll] at hf
  | cons r res ih =>
    intro base vs cs hf h
    cases vs with
    | nil => simp [fitsAll] at hf
    | cons v vs =>
      obtain ⟨c1, c2, h1, h2, h3⟩ := hf
      simp only [List.flatMap_cons, cellsR_append] at h
      have hl1 : c1.length = (s1.cellsR base r.cells).length := by
        rw [cellsR_length]
        cases r with
        | one r => simp only [RV.fits] at h1; rw [h1]; rfl
        | agg rs => obtain ⟨_, _, _, e⟩ := h1; exact e
      obtain ⟨g1, g2⟩ := h.split h3 hl1
      cases r with
      | one r =>
        obtain ⟨q1, q2⟩ := ih (base + 1) vs c2 h2 g2
        refine ⟨by simp [AS.avR, q1], fun m hm => ?_⟩
        cases m with
        | zero =>
          simp only [RV.fits] at h1
          subst h1
          exact .one (g1.2 0 (by rw [cellsR_length]; simp [RV.cells]))
        | succ m => simpa [AS.avR] using q2 m (by simpa [AS.avR] using hm)
      | agg rs =>
        obtain ⟨q1, q2⟩ := ih (base + rs.length) vs c2 h2 g2
        refine ⟨by simp [AS.avR, q1], fun m hm => ?_⟩
        cases m with
        | zero =>
          obtain ⟨us, rfl, e2, e3⟩ := h1
          subst e2
          exact .agg g1
        | succ m => simpa [AS.avR] using q2 m (by simpa [AS.avR] using hm)
theorem packAV_ok {xs : List AV} {vs : List Value} (hn : vs.length = xs.length) (h : ∀ m, m < xs.length → RepAV B w s gv (xs.getD m .undef) (vs.getD m Go.undef)) : RepAV B w s gv (packAV xs) (packRes vs) := by
  match xs, vs, hn, h with
  | [], [], _, _ => exact .tup rfl (fun m hm => by simp at hm)
  | [x], [v], _, h => exact h 0 (by simp)
  | x :: y :: xs, v :: u :: vs, hn, h =>
    refine .tup (by simpa using hn) (fun m hm => ?_)
    have := h m hm
    have e : (v :: u :: vs).toArray.getD m Go.undef = (v :: u :: vs).getD m Go.undef := by simp [Array.getD_eq_getD_getElem?, List.getD_eq_getElem?_getD]
    rw [e]
    exact this
theorem run_call {f : FuncId} {fn : Func} (hf : P.funcs[f]? = some fn) (hb : fn.body.isSome = true) (hn : (fn.name == "runtime.NumGoroutine") = false) (args : Array Value) : (callFunc f args).run P w = .ok (.enter f args) w := by
  obtain ⟨c, hc⟩ := Option.isSome_iff_exists.1 hb
  have hn' : ¬ fn.name = "runtime.NumGoroutine" := by simpa using hn
  simp [callFunc, hf, hn', hc]
theorem opok_call [hI : InvC P B w0] (hd : ∀ x, o.dst = some x → x < nt) (fo : Operand) (args : Array Operand) (ts : Array TypeId) (ho : o.op = .call ⟨.value fo, args, ts⟩) (fa : A) (hfa : s.ev fo = .one fa) (f : FuncId) (caps : List C) (hc : s.callee fa = some (f, caps))
    (ds : List DV) (hds : s.viewVs (args.toList.map s.ev) = some ds) (res : List RV) (hspec : Spec P f (ds ++ caps.map .one) res) (kl : List (Nat × Nat))
    (hkl : kl = s.lentVs (args.toList.map s.ev) ++ s.lentF fa ∨ (kl = [] ∧ ∀ r ∈ res.flatMap RV.cells, r.flat)) (base : Nat)
    (hk : K (((s.frzs kl).take base (res.flatMap RV.cells)).put o.dst (packAV ((s.frzs kl).avR base res)))) : OpOK B P nt w0 o s K := by
  intro a w ⟨gv, hs, hK⟩ Q
  let l := s.lentVs (args.toList.map s.ev) ++ s.lentF fa
  have hfv := hs.ev fo
  rw [hfa] at hfv
  generalize hev : a.eval fo = fv at hfv
  cases hfv with | one hfv =>
  obtain ⟨cvs, rfl, hcaps⟩ := hs.callee l hfv hc (fun p hp => List.mem_append_right _ hp)
  have hargs : RepDVs w (lentOk B s gv l) ds (args.toList.map a.eval) :=
    hs.viewVs l _ _ ds (by simp) (fun m hm => by
      have hm' : m < args.toList.length := by simpa using hm
      rw [getD_map s.ev _ _ (.const Go.undef) _ hm', getD_map a.eval _ _ (.const Go.undef) _ hm']
      exact hs.ev _) hds (fun p hp => List.mem_append_left _ hp)
  obtain ⟨⟨fn, hfn, hbody, hname⟩, hcall⟩ := hspec
  have hcalls := hcall w (lentOk B s gv l) _ (hargs.append hcaps) (hI.inv.keep hK.size (fun b hb h => lentOk_of (hK.ok b hb h)) hK.heap)
  have hrun : (execOp a.eval o).run P w = .ok (.enter f (args.toList.map a.eval ++ cvs.toList).toArray) w := by
    have : (#[] ++ args.map a.eval ++ cvs) = (args.toList.map a.eval ++ cvs.toList).toArray := by apply Array.ext'; simp
    simp [execOp, ho, resolve, hev, Deferred.ofValue, invoke, run_call hfn hbody hname]
  unfold Oper.wp
  rw [hrun]
  refine Calls.mono hcalls ?_
  rintro e w' ⟨v, rfl, hbel, vs, cs, rfl, hfits, hlen, hrep, hinj⟩
  show ∃ s', K s' ∧ Sim B nt w0 s' (a.put o.dst (packRes vs)) w'
  obtain ⟨hs1, hk1⟩ := hs.frzs kl
  let rs := res.flatMap RV.cells
  let F := newOf base rs cs
  have hFown : ∀ i blk g, F i = some (blk, g) → ∃ m E sz xs, m < rs.length ∧ i = base + m ∧ rs.getD m (.c .junk) = .own E sz xs ∧ blk = .arr E sz xs ∧ g = cs.getD m Go.undef := by
    intro i blk g hF
    simp only [F, newOf] at hF
    split at hF
    · rename_i hi
      split at hF
      · rename_i E sz xs he
        cases hF
        exact ⟨i - base, E, sz, xs, by omega, by omega, he, rfl, rfl⟩
      · cases hF
    · cases hF
  have hownb : ∀ m, m < rs.length → ∀ E sz xs, rs.getD m (.c .junk) = .own E sz xs → ∀ b, blkOf (cs.getD m Go.undef) = some b → ownOf (rs.getD m (.c .junk)) (cs.getD m Go.undef) = some b ∧ w.heap.size ≤ b := by
    intro m hm E sz xs he b hb
    have := hrep m hm
    rw [he] at this ⊢
    obtain ⟨vals, _, hrow, hfr, _⟩ := this
    exact ⟨(own_blk hrow hb).1, hfr b (own_blk hrow hb).1⟩
  have hokb : ∀ (s' : AS) (gv' : GV), (∀ b, okb B (s.frzs kl) gv b → (∀ i blk g, F i = some (blk, g) → blkOf g ≠ some b) → okb B s' gv' b) → kl = l →
      ∀ b, ((lentOk B s gv l b ∨ w.heap.size ≤ b) ∧ ∀ j, j < rs.length → ownOf (rs.getD j (.c .junk)) (cs.getD j Go.undef) ≠ some b) → okb B s' gv' b := by
    intro s' gv' h hkl b ⟨h1, h2⟩
    refine h b ?_ (fun i blk g hF hb => ?_)
    · rcases h1 with h1 | h1
      · rw [hkl]; exact lentOk_frzs h1
      · refine ⟨hs.above b (.inl (Nat.le_trans hs.below.size h1)), fun j u hj hb => ?_⟩
        obtain ⟨bl, e, ho⟩ := hj.ex
        have := ((hs1.live j u bl e).blk ho b hb).2
        omega
    · obtain ⟨m, E, sz, xs, hm, rfl, he, rfl, rfl⟩ := hFown i blk g hF
      exact h2 m hm (hownb m hm E sz xs he b hb).1
  have hrepC : ∀ (s' : AS) (gv' : GV), (∀ b, okb B (s.frzs kl) gv b → (∀ i blk g, F i = some (blk, g) → blkOf g ≠ some b) → okb B s' gv' b) →
      ∀ (r : R) (x : C) (v : Value), r ∈ rs → (r = .c x ∨ ∃ E sz xs, r = .own E sz xs ∧ ∃ y ∈ xs, x ∈ y) →
        RepC w' (fun b => (lentOk B s gv l b ∨ w.heap.size ≤ b) ∧ ∀ j, j < rs.length → ownOf (rs.getD j (.c .junk)) (cs.getD j Go.undef) ≠ some b) x v → RepC w' (okb B s' gv') x v := by
    intro s' gv' h r x v hr hrx hx
    rcases hkl with hkl | ⟨hkl, hflat⟩
    · exact hx.mono (fun b _ hb => hokb s' gv' h hkl b hb) (Nat.le_refl _) (fun _ _ _ => rfl)
    · have hfl := hflat r hr
      have hxf : x.flat = true ∧ x ≠ .sl [] := by
        rcases hrx with rfl | ⟨E, sz, xs, rfl, y, hy, hxy⟩
        · exact hfl
        · exact hfl y hy x hxy
      rcases hx.ofFlat (ok' := okb B s' gv') hxf.1 (fun _ _ => .inr trivial) with e | e
      · exact absurd e hxf.2
      · exact e
  obtain ⟨gv', hs', hk', hokb', hgv⟩ := hs1.newF hbel F
    (fun i blk g hF b hb => by
      obtain ⟨m, E, sz, xs, hm, rfl, he, rfl, rfl⟩ := hFown i blk g hF
      exact (hownb m hm E sz xs he b hb).2)
    (fun i j blk g blk' g' b hF hF' hb hb' => by
      obtain ⟨m, E, sz, xs, hm, rfl, he, rfl, rfl⟩ := hFown i blk g hF
      obtain ⟨m', E', sz', xs', hm', rfl, he', rfl, rfl⟩ := hFown j blk' g' hF'
      rw [hinj m m' b hm hm' (hownb m hm E sz xs he b hb).1 (hownb m' hm' E' sz' xs' he' b hb').1])
    (fun s' gv' _ _ hok i blk g hF => by
      obtain ⟨m, E, sz, xs, hm, rfl, he, rfl, rfl⟩ := hFown i blk g hF
      have hr := hrep m hm
      have hmem : rs.getD m (.c .junk) ∈ rs := getD_mem _ _ _ hm
      rw [he] at hr
      obtain ⟨vals, hsz, hrow, hfr, hcs⟩ := hr
      refine ⟨vals, hsz, hrow, fun b hb => .inl (Nat.le_trans hs.below.size (hfr b (own_blk hrow hb).1)), hcs.1, fun q hq => hrepC s' gv' hok _ _ _ hmem (.inr ⟨E, sz, xs, he, ?_⟩) (hcs.2 q hq)⟩
      have := getD_mem xs.flatten C.junk q hq
      obtain ⟨y, hy, hy2⟩ := List.mem_flatten.1 this
      exact ⟨y, hy, hy2⟩)
  have htake : (s.frzs kl).take base rs = (s.frzs kl).newF F := take_eq rs cs base _
  have hcells : RepAs B w' ((s.frzs kl).newF F) gv' ((s.frzs kl).cellsR base rs) cs :=
    cellsR_ok (ok := fun _ => True) (s.frzs kl) rs base cs hlen
      (fun m hm x hx => by
        have hr := hrep m hm
        have hmem : rs.getD m (.c .junk) ∈ rs := getD_mem _ _ _ hm
        rw [hx] at hr
        exact hrepC _ _ hokb' _ x _ hmem (.inl hx) hr)
      (fun m hm E sz xs hx => by
        have hF : F (base + m) = some (.arr E sz xs, cs.getD m Go.undef) := by
          simp only [F, newOf]
          rw [if_pos (by omega), Nat.add_sub_cancel_left, hx]
        exact ⟨by simp [AS.newF, hF], hgv _ _ _ hF⟩)
  obtain ⟨q1, q2⟩ := avR_ok (s.frzs kl) res base vs cs hfits hcells
  refine ⟨_, hk, gv', ?_, ?_⟩
  · rw [htake]
    exact hs'.put o.dst hd _ _ (packAV_ok q1 q2)
  · rw [htake]
    exact (hK.trans (hk1.trans hk')).putd _ _
end
end Go.AV
end
