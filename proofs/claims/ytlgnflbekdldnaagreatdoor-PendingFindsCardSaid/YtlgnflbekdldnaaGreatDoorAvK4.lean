/- Texts Av4. -/
import Derived.Test.YtlgnflbekdldnaaGreatDoorAvK3
set_option linter.unusedVariables false
set_option linter.unusedSimpArgs false
set_option linter.unusedSectionVars false
noncomputable section
namespace Go.AV
open Go.RowKit
section
variable {B : Nat → Prop} {nt : Nat} {w0 : Base} {w : World} {s : AS} {a : Act} {gv : GV} {P : Program} {o : Oper} {K : AS → Prop}
def AS.rd (s : AS) (n : Nat) : A → Option (List A)
  | .c (.ptr cells) => if n ≤ cells.length then some ((cells.take n).map .c) else none
  | .ptr h v off => match s.H h v with
    | some (.box cells) => if off + n ≤ cells.length then some ((cells.drop off).take n) else none
    | _ => none
  | .eptr h v sz i j => match s.H h v with
    | some (.arr _ sz' xs) => if sz' = sz ∧ i < xs.length ∧ j + n ≤ sz then some (((xs.getD i []).drop j |>.take n).map .c) else none
    | _ => none
  | _ => none
theorem getD_take {α : Type} (l : List α) (d : α) (n m : Nat) (h : m < n) : (l.take n).getD m d = l.getD m d := by
  simp [List.getD_eq_getElem?_getD, List.getElem?_take, h]
theorem getD_drop {α : Type} (l : List α) (d : α) (n m : Nat) : (l.drop n).getD m d = l.getD (n + m) d := by
  simp [List.getD_eq_getElem?_getD]
theorem getD_map {α β : Type} (f : α → β) (l : List α) (d : β) (e : α) (m : Nat) (h : m < l.length) : (l.map f).getD m d = f (l.getD m e) := by
  simp [List.getD_eq_getElem?_getD, h]
theorem SimG.rd (h : SimG B nt w0 s a w gv) {p : A} {v : Value} {n : Nat} {cs : List A} (hr : RepA B w s gv p v) (hrd : s.rd n p = some cs) :
    ∃ b off, v = .pointer (some ⟨b, off, none⟩) ∧ ∃ vals : List Value, w.rangeAt b off vals ∧ RepAs B w s gv cs vals ∧ cs.length = n := by
  cases hr with
  | @c x v hx =>
    cases x with
    | ptr cells =>
      simp only [AS.rd] at hrd
      split at hrd
      · rename_i hn
        cases hrd
        cases hx with
        | ptr _ b off vals hok hb hc hv =>
          refine ⟨b, off, rfl, (List.range n).map vals, ?_, ⟨by simp; omega, ?_⟩, by simp; omega⟩
          · intro j u hj
            simp only [List.getElem?_map, Option.map_eq_some_iff] at hj
            obtain ⟨j', hj', rfl⟩ := hj
            rcases Nat.lt_or_ge j n with hlt | hge
            · rw [List.getElem?_range hlt] at hj'
              cases hj'
              exact hc j (by omega)
            · rw [List.getElem?_eq_none (by simpa using hge)] at hj'; cases hj'
          · intro m hm
            have hm' : m < n := by simp at hm; omega
            rw [getD_map A.c _ _ C.junk _ (by simp; omega), getD_take _ _ _ _ hm', getD_map vals _ _ 0 _ (by simpa using hm')]
            have : (List.range n).getD m 0 = m := by simp [List.getD_eq_getElem?_getD, hm']
            rw [this]
            exact .c (hv m (by omega))
      · cases hrd
    | _ => simp [AS.rd] at hrd
  | @ptr i u off x hv hx =>
    simp only [AS.rd] at hrd
    split at hrd
    · rename_i cells hH
      split at hrd
      · rename_i hle
        cases hrd
        obtain ⟨b, hb, rfl⟩ := hx (by rw [hH]; simp)
        obtain ⟨b', vals, T, hg, h1, h2, h3⟩ := h.live i u _ hH
        obtain rfl : b' = b := by rw [hg] at hb; simpa [blkOf] using hb
        have hl : vals.toList.length = cells.length := h3.1
        refine ⟨b', off, rfl, (vals.toList.drop off).take n, ?_, ⟨by simp at hl ⊢; omega, ?_⟩, by simp; omega⟩
        · intro j x hj
          rw [cell_of_row w b' (off + j) vals T (0, 0) h2]
          simp only [List.getElem?_take, List.getElem?_drop] at hj
          split at hj
          · simpa using hj
          · cases hj
        · intro m hm
          have hm' : m < n := by simp at hm; omega
          rw [getD_take _ _ _ _ hm', getD_take _ _ _ _ hm', getD_drop, getD_drop]
          exact h3.2 (off + m) (by omega)
      · cases hrd
    · cases hrd
  | @eptr i u sz k j x hv hx =>
    simp only [AS.rd] at hrd
    split at hrd
    · rename_i E sz' xs hH
      split at hrd
      · rename_i hle
        obtain ⟨rfl, hk, hj⟩ := hle
        cases hrd
        obtain ⟨b, hb, rfl⟩ := hx (by rw [hH]; simp)
        obtain ⟨vals, hsz, hrow, _, hcs⟩ := h.live i u _ hH
        have hxl : (xs.getD k []).length = sz' := hsz _ (getD_mem _ _ _ hk)
        rcases hrow.2 with ⟨hg, _⟩ | ⟨g, cap, cur, hg, hbase, hheap, hlen, hcap, hcur, htake⟩
        · rw [hg] at hb; simp [blkOf] at hb
        · obtain rfl : g = b := by rw [hg] at hb; simpa [blkOf] using hb
          have hfl : xs.flatten.length = xs.length * sz' := flatten_length hsz
          have hmul : (k + 1) * sz' ≤ xs.length * sz' := Nat.mul_le_mul_right _ hk
          rw [Nat.succ_mul] at hmul
          have hvl : vals.length = xs.length * sz' := by rw [hcs.1, hfl]
          refine ⟨g, k * sz' + j, rfl, (vals.drop (k * sz' + j)).take n, ?_, ⟨by simp only [List.length_map, List.length_take, List.length_drop]; omega, ?_⟩, by simp only [List.length_map, List.length_take, List.length_drop]; omega⟩
          · intro m x hm
            simp only [List.getElem?_take, List.getElem?_drop] at hm
            split at hm
            · rename_i hmn
              rw [cell_of_row w g _ cur E (0, 0) hheap]
              rw [← htake, List.getElem?_take] at hm
              split at hm
              · simpa using hm
              · cases hm
            · cases hm
          · intro m hm
            have hm' : m < n := by simp at hm; omega
            rw [getD_map A.c _ _ C.junk _ (by simp only [List.length_take, List.length_drop]; omega), getD_take _ _ _ _ hm', getD_take _ _ _ _ hm', getD_drop, getD_drop]
            have := hcs.2 (k * sz' + j + m) (by omega)
            rw [Nat.add_assoc, ← Nat.add_assoc (k * sz') j m] at this
            have hfl2 := flatten_getD hsz k (j + m) hk (by omega)
            unfold fl at hfl2
            rw [← hfl2, ← Nat.add_assoc]
            exact .c this
      · cases hrd
    · cases hrd
  | _ => simp [AS.rd] at hrd
theorem RepAs.mkAV {cs : List A} {vals : List Value} (h : RepAs B w s gv cs vals) (agg : Bool) (hn : agg = false → cs.length = 1) :
    RepAV B w s gv (mkAV agg cs) (if agg then .agg vals.toArray else vals.getD 0 Go.undef) := by
  cases agg with
  | true => exact .agg (by simpa using h)
  | false => exact .one (h.2 0 (by rw [hn rfl]; omega))
theorem opok_load (hd : ∀ x, o.dst = some x → x < nt) (t : TypeId) (p : Operand) (ho : o.op = .load t p) (ti : TI) (ht : tiOf P t = some ti) (hn1 : ti.agg = false → ti.size = 1)
    (pa : A) (hp : s.ev p = .one pa) (cs : List A) (hrd : s.rd ti.size pa = some cs) (hk : K (s.put o.dst (mkAV ti.agg cs))) : OpOK B P nt w0 o s K :=
  opok_val hd _ hk fun a w gv hs => by
    obtain ⟨i, d, h1, h2, h3, h4, _⟩ := tiOf_some ht
    have hpv := hs.ev p
    rw [hp] at hpv
    generalize hev : a.eval p = v at hpv
    cases hpv with
    | one hpv =>
      obtain ⟨b, off, rfl, vals, hra, hrep, hl⟩ := hs.rd hpv hrd
      refine ⟨_, ?_, hrep.mkAV ti.agg (fun e => by rw [hl]; exact hn1 e)⟩
      have hlv : vals.length = ti.size := by rw [hrep.1, hl]
      cases hag : ti.agg with
      | true =>
        have := run_loadAt_mid (P := P) w b off t vals d hra h2 (by rw [← h3]; exact hag) (by rw [h1]; simp [hlv, h4])
        simp [execOp, ho, hev, this]
      | false =>
        have hs1 := hn1 hag
        have hisagg := isAgg_run h2 w
        rw [← h3, hag] at hisagg
        have hc : w.cell? ⟨b, off, none⟩ = some (vals.getD 0 Go.undef) := by
          have := hra 0 (vals.getD 0 Go.undef) (by rw [getD_lt _ _ _ (by omega)]; exact List.getElem?_eq_getElem (by omega))
          simpa using this
        simp [execOp, ho, hev, Instr.loadAt, Instr.sureAddr, loadVar, hisagg, hc]
def A.adv (k : Nat) : A → A
  | .c (.ptr cells) => .c (.ptr (cells.drop k))
  | .ptr h v off => .ptr h v (off + k)
  | .eptr h v sz i j => .eptr h v sz i (j + k)
  | _ => .any
def AS.ptrOk (s : AS) (k : Nat) : A → Prop
  | .c (.ptr cells) => k ≤ cells.length
  | .ptr h v off => s.H h v ≠ none
  | .eptr h v sz i j => s.H h v ≠ none
  | _ => False
theorem SimG.adv (h : SimG B nt w0 s a w gv) {p : A} {v : Value} (k : Nat) (hr : RepA B w s gv p v) (hok : s.ptrOk k p) :
    ∃ b off, v = .pointer (some ⟨b, off, none⟩) ∧ RepA B w s gv (p.adv k) (.pointer (some ⟨b, off + k, none⟩)) := by
  cases hr with
  | @c x v hx =>
    cases x with
    | ptr cells =>
      cases hx with
      | ptr _ b off vals hok' hb hc hv =>
        refine ⟨b, off, rfl, .c (.ptr _ b (off + k) (fun m => vals (k + m)) hok' hb (fun m hm => ?_) (fun m hm => ?_))⟩
        · simp at hm
          have := hc (k + m) (by omega)
          rwa [← Nat.add_assoc] at this
        · simp at hm
          rw [getD_drop]
          exact hv (k + m) (by omega)
    | _ => exact hok.elim
  | @ptr i u off x hv hx =>
    obtain ⟨b, hb, rfl⟩ := hx hok
    exact ⟨b, off, rfl, .ptr hv (fun _ => ⟨b, hb, rfl⟩)⟩
  | @eptr i u sz k' j x hv hx =>
    obtain ⟨b, hb, rfl⟩ := hx hok
    exact ⟨b, _, rfl, .eptr hv (fun _ => ⟨b, hb, by rw [Nat.add_assoc]⟩)⟩
  | _ => exact hok.elim
theorem addr_add (b off k : Nat) : (⟨b, off, none⟩ : Addr).add k = ⟨b, off + k, none⟩ := Addr.add_mid b off k
theorem opok_fieldAddr (hd : ∀ x, o.dst = some x → x < nt) (t : TypeId) (p : Operand) (f : Nat) (ho : o.op = .fieldAddr t p f) (ti : TI) (ht : tiOf P t = some ti) (hsh : ti.sh = .struct)
    (fo fs : Nat) (ft : TypeId) (hf : ti.flds[f]? = some (fo, fs, ft)) (hfs : fs ≠ 0)
    (pa : A) (hp : s.ev p = .one pa) (hok : s.ptrOk fo pa) (hk : K (s.put o.dst (.one (pa.adv fo)))) : OpOK B P nt w0 o s K :=
  opok_val hd _ hk fun a w gv hs => by
    obtain ⟨i, d, h1, h2, h3, h4, h5, h6, h7⟩ := tiOf_some ht
    have hpv := hs.ev p
    rw [hp] at hpv
    generalize hev : a.eval p = v at hpv
    cases hpv with
    | one hpv =>
      obtain ⟨b, off, rfl, hrep⟩ := hs.adv fo hpv hok
      refine ⟨_, ?_, .one hrep⟩
      rw [h7] at hsh
      cases d with
      | struct fields =>
        rw [h6] at hf
        simp only [List.getElem?_map, Option.map_eq_some_iff, Array.getElem?_toList] at hf
        obtain ⟨fd, hfd, he⟩ := hf
        have e1 : fd.offset = fo := congrArg Prod.fst he
        have e2 : P.cellsOf fd.type = fs := congrArg (fun x => x.2.1) he
        cases hq : P.info? fd.type with
        | none => exact absurd (by rw [← e2]; simp [Program.cellsOf, hq]) hfs
        | some fi =>
          have hsz : fi.size ≠ 0 := by
            have : P.cellsOf fd.type = fi.size := by simp [Program.cellsOf, hq]
            omega
          simp [execOp, ho, hev, Instr.fieldAt, run_underlying h2, hfd, Instr.sureAddr, fieldPlace, sizeOf_run hq, hsz, e1, addr_add]
      | _ => simp [shOf] at hsh
theorem opok_field (hd : ∀ x, o.dst = some x → x < nt) (t : TypeId) (p : Operand) (f : Nat) (ho : o.op = .field t p f) (ti : TI) (ht : tiOf P t = some ti) (hsh : ti.sh = .struct)
    (fo fs : Nat) (ft : TypeId) (hf : ti.flds[f]? = some (fo, fs, ft))
    (fi : TI) (hfi : tiOf P ft = some fi) (hn1 : fi.agg = false → fi.size = 1) (hfs : fi.size = fs)
    (asx : List A) (hp : s.ev p = .agg asx) (hle : fo + fs ≤ asx.length) (hk : K (s.put o.dst (mkAV fi.agg ((asx.drop fo).take fs)))) : OpOK B P nt w0 o s K :=
  opok_val hd _ hk fun a w gv hs => by
    obtain ⟨i, d, h1, h2, h3, h4, h5, h6, h7⟩ := tiOf_some ht
    obtain ⟨i', d', g1, g2, g3, g4, g5, g6, g7⟩ := tiOf_some hfi
    have hpv := hs.ev p
    rw [hp] at hpv
    generalize hev : a.eval p = v at hpv
    cases hpv with
    | @agg _ vs hrep =>
      have hl : vs.toList.length = asx.length := hrep.1
      have hsub : RepAs B w s gv ((asx.drop fo).take fs) ((vs.toList.drop fo).take fs) := ⟨by simp at hl ⊢; omega, fun m hm => by
        have hm' : m < fs := by simp at hm; omega
        rw [getD_take _ _ _ _ hm', getD_take _ _ _ _ hm', getD_drop, getD_drop]
        exact hrep.2 (fo + m) (by omega)⟩
      refine ⟨_, ?_, hsub.mkAV fi.agg (fun e => by have := hn1 e; simp only [List.length_take, List.length_drop]; omega)⟩
      rw [h7] at hsh
      cases d with
      | struct fields =>
        rw [h6] at hf
        simp only [List.getElem?_map, Option.map_eq_some_iff, Array.getElem?_toList] at hf
        obtain ⟨fd, hfd, he⟩ := hf
        have e1 : fd.offset = fo := congrArg Prod.fst he
        obtain rfl : fd.type = ft := congrArg (fun x => x.2.2) he
        have hisagg := isAgg_run g2 w
        cases hag : fi.agg with
        | true =>
          rw [← g3, hag] at hisagg
          have hx : (vs.toList.drop fo).take fs = (vs.extract fo (fo + fs)).toList := by simp [Array.toList_extract, List.extract_eq_take_drop, Nat.add_sub_cancel_left]
          simp [execOp, ho, hev, Instr.field, run_underlying h2, hfd, asAgg, part, hisagg, sizeOf_run g1, e1, g4.symm.trans hfs]
          rw [hx, Array.toArray_toList]
        | false =>
          rw [← g3, hag] at hisagg
          have h1' := hn1 hag
          have hlt : fo < vs.size := by simp at hl; omega
          have hx : ((vs.toList.drop fo).take fs).getD 0 Go.undef = vs[fo] := by
            rw [getD_take _ _ _ _ (by omega), getD_drop, getD_lt _ _ _ (by simp; omega)]
            simp
          rw [if_neg (by simp), hx]
          simp [execOp, ho, hev, Instr.field, run_underlying h2, hfd, asAgg, part, hisagg, e1, hlt]
      | _ => simp [shOf] at hsh
end
end Go.AV
end
