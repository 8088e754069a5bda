/- Regions of open order: walked once, in the order of the text. -/
import Derived.Test.YtlgnflbekdldnaaAv15
set_option linter.unusedVariables false
set_option linter.unusedSimpArgs false
namespace Go.AV
open Go.RowKit

section
variable {B : Nat → Prop} {nt : Nat} {w0 : Base} {w : World} {s s' : AS} {a : Act} {gv : GV} {P : Program} {o : Oper} {K : AS → Prop}

theorem SimG.evA (hs : SimG B nt w0 s a w gv) {x : Operand} {p : A} (hx : s.ev x = .one p) : RepA B w s gv p (a.eval x) := by
  have := hs.ev x
  rw [hx] at this
  cases this with | one h => exact h
theorem SimG.vptr (hs : SimG B nt w0 s a w gv) {x : Operand} {h v off : Nat} (hx : s.ev x = .one (.ptr h v off)) : v < s.N h := by
  cases hs.evA hx with | ptr hv _ => exact hv
theorem SimG.veptr (hs : SimG B nt w0 s a w gv) {x : Operand} {h v sz i j : Nat} (hx : s.ev x = .one (.eptr h v sz i j)) : v < s.N h := by
  cases hs.evA hx with | eptr hv _ => exact hv
theorem SimG.vown (hs : SimG B nt w0 s a w gv) {x : Operand} {h v : Nat} (hx : s.ev x = .one (.own h v)) : v < s.N h := by
  cases hs.evA hx with | own hv _ => exact hv

/-- What was left is not too much for the handles of one slot. -/
def Out.small : Out → Prop
  | .call _ _ rs _ => rs.length ≤ 900
  | _ => True

theorem xOut_congr (hs : SimG B nt w0 s a w gv) (ha : Agree s s') (hev : ∀ x ∈ o.op.operands.toList, s'.ev x = s.ev x) (hN0 : s'.N (hnd o.dst) = s.N (hnd o.dst)) (out : Out) : xOut P o s' out ↔ xOut P o s out := by
  unfold xOut
  cases hop : o.op with
  | makeMap t r => rw [hN0]
  | lookup t x ix ok =>
    have e := hev x (by simp [hop, Op.operands])
    have e2 := hev ix (by simp [hop, Op.operands])
    simp only [e, e2]
    cases ht : tiOf P t with
    | none => simp
    | some ti =>
    have hpk : ∀ z : Value, s'.pks (z.cells.toList.map constA) = s.pks (z.cells.toList.map constA) := fun z => pks_congr ha (constAs_ok B w s gv z.cells.toList)
    cases hi : s.ev ix with
    | one q =>
      cases q with
      | c y =>
        cases y with
        | str k =>
          cases hx : s.ev x with
          | one p => simp only [mapOf_congr ha (hs.evA hx), hpk]
          | _ => simp
        | _ => cases s.ev x <;> simp
      | _ => cases s.ev x <;> simp
    | _ => cases s.ev x <;> simp
  | mapUpdate t m ix x =>
    have e := hev m (by simp [hop, Op.operands])
    have e2 := hev ix (by simp [hop, Op.operands])
    have e3 := hev x (by simp [hop, Op.operands])
    simp only [e, e2, e3, cellsO_congr ha (hs.ev x)]
    cases ht : tiOf P t with
    | none => simp
    | some ti =>
    cases hc : s.cellsO (s.ev x) with
    | none => cases s.ev m with
      | one pa =>
        cases pa with
        | own => cases s.ev ix with
          | one q => cases q with
            | c y => cases y <;> simp
            | _ => simp
          | _ => simp
        | _ => simp
      | _ => simp
    | some cs =>
      have hpk := pks_congr ha (cellsO_rep hs (hs.ev x) hc)
      cases hi : s.ev ix with
      | one q =>
        cases q with
        | c y =>
          cases y with
          | str k =>
            cases hm : s.ev m with
            | one pa =>
              cases pa with
              | own h v => simp only [ha h v (hs.vown hm), hpk]
              | _ => simp
            | _ => simp
          | _ => cases s.ev m with
            | one pa => cases pa <;> simp
            | _ => simp
        | _ => cases s.ev m with
          | one pa => cases pa <;> simp
          | _ => simp
      | _ => cases s.ev m with
        | one pa => cases pa <;> simp
        | _ => simp
  | nilCheck x =>
    have e := hev x (by simp [hop, Op.operands])
    simp only [e]
    cases hx : s.ev x with
    | one pa =>
      cases pa with
      | ptr h v off => simp only [AS.ptrOk, ha h v (hs.vptr hx)]
      | eptr h v sz i j => simp only [AS.ptrOk, ha h v (hs.veptr hx)]
      | c y => cases y <;> exact Iff.rfl
      | _ => exact Iff.rfl
    | _ => exact Iff.rfl
  | makeSlice t l c =>
    have e := hev l (by simp [hop, Op.operands])
    have e2 := hev c (by simp [hop, Op.operands])
    have hpk : ∀ z : Value, s'.pks (z.cells.toList.map constA) = s.pks (z.cells.toList.map constA) := fun z => pks_congr ha (constAs_ok B w s gv z.cells.toList)
    simp only [e, e2, hpk, hN0]
  | _ => exact Iff.rfl

theorem aOut_congr (hs : SimG B nt w0 s a w gv) (ha : Agree s s') (hev : ∀ x ∈ o.op.operands.toList, s'.ev x = s.ev x) (hN : ∀ k, k ≤ 900 → s'.N (hnd o.dst + k) = s.N (hnd o.dst + k)) (out : Out) (hsm : out.small) :
    aOut P o s' (· = out) ↔ aOut P o s (· = out) := by
  have hN0 : s'.N (hnd o.dst) = s.N (hnd o.dst) := hN 0 (by omega)
  unfold aOut
  cases hop : o.op with
  | move x => simp only [hev x (by simp [hop, Op.operands])]
  | assign x => simp only [hev x (by simp [hop, Op.operands])]
  | pick c x y => simp only [hev c (by simp [hop, Op.operands]), hev x (by simp [hop, Op.operands]), hev y (by simp [hop, Op.operands])]
  | extract x i => simp only [hev x (by simp [hop, Op.operands])]
  | makeFunc fn first caps =>
    cases fn with
    | func f =>
      have : caps.toList.map s'.ev = caps.toList.map s.ev := List.map_congr_left (fun x hx => hev x (by simp [hop, Op.operands]; right; simpa using hx))
      simp only [this]
    | _ => exact exists_congr fun out' => and_congr_left fun _ => xOut_congr hs ha hev hN0 out'
  | load t p =>
    have e := hev p (by simp [hop, Op.operands])
    simp only [e]
    cases ht : tiOf P t with
    | none => simp
    | some ti =>
    cases hp : s.ev p with
    | one pa =>
      cases pa with
      | ptr h v off => simp only [ha h v (hs.vptr hp)]
      | eptr h v sz i j => simp only [ha h v (hs.veptr hp)]
      | c x => cases x <;> simp
      | _ => simp
    | _ => simp
  | store t p x =>
    have e := hev p (by simp [hop, Op.operands])
    have e2 := hev x (by simp [hop, Op.operands])
    simp only [e, e2, cellsO_congr ha (hs.ev x)]
    cases ht : tiOf P t with
    | none => simp
    | some ti =>
    cases hc : s.cellsO (s.ev x) with
    | none => cases s.ev p with
      | one pa => cases pa <;> simp
      | _ => simp
    | some cs =>
    cases hp : s.ev p with
    | one pa =>
      cases pa with
      | ptr h v off => simp only [ha h v (hs.vptr hp)]
      | eptr h v sz i j => simp only [ha h v (hs.veptr hp), pks_congr ha (cellsO_rep hs (hs.ev x) hc)]
      | c y => cases y <;> simp
      | _ => simp
    | _ => simp
  | fieldAddr t p f =>
    have e := hev p (by simp [hop, Op.operands])
    simp only [e]
    cases ht : tiOf P t with
    | none => simp
    | some ti =>
    cases hp : s.ev p with
    | one pa => simp only [ptrOk_congr ha (hs.evA hp)]
    | _ => simp
  | field t p f => simp only [hev p (by simp [hop, Op.operands])]
  | indexAddr t x ix =>
    have e := hev x (by simp [hop, Op.operands])
    have e2 := hev ix (by simp [hop, Op.operands])
    simp only [e, e2]
    cases ht : tiOf P t with
    | none => simp
    | some ti =>
    cases hi : s.ev ix with
    | one ia =>
      cases hx : s.ev x with
      | one pa =>
        cases ia with
        | c ic =>
          cases ic with
          | int k i =>
            simp only [ptrOk_congr ha (hs.evA hx)]
            cases pa with
            | own h v => simp only [ha h v (hs.vown hx)]
            | c y => cases ti.sh with
              | slice e => cases y <;> (cases hte : tiOf P e <;> simp [hte])
              | _ => simp
            | _ => cases ti.sh with
              | slice e => cases tiOf P e <;> simp
              | _ => simp
          | _ => simp
        | _ => simp
      | _ => simp
    | _ => cases s.ev x <;> simp
  | index t x ix => simp only [hev x (by simp [hop, Op.operands]), hev ix (by simp [hop, Op.operands])]
  | slice t x lw hg mx =>
    have e := hev x (by simp [hop, Op.operands])
    have e1 : ∀ d, s'.bnd lw d = s.bnd lw d := fun d => bnd_congr (fun y hy => hev y (by subst hy; simp [hop, Op.operands]))
    have e2 : ∀ d, s'.bnd hg d = s.bnd hg d := fun d => bnd_congr (fun y hy => hev y (by subst hy; simp [hop, Op.operands]))
    simp only [e, e1, e2]
  | binOp op t x y t' => simp only [hev x (by simp [hop, Op.operands]), hev y (by simp [hop, Op.operands])]
  | unOp op t x => simp only [hev x (by simp [hop, Op.operands])]
  | convert t u x => simp only [hev x (by simp [hop, Op.operands])]
  | alloc t => simp only [hN0]
  | box t x =>
    have e := hev x (by simp [hop, Op.operands])
    simp only [e, cellsO_congr ha (hs.ev x), hN0]
  | build t parts =>
    have e : ∀ fl cells, s'.fill fl parts.toList cells = s.fill fl parts.toList cells := fun fl cells => fill_congr hs ha fl parts.toList cells (fun p hp => hev p.2 (by simp only [hop, Op.operands]; exact List.mem_map.2 ⟨p, hp, rfl⟩))
    simp only [e]
  | buildSlice t n parts =>
    have e : ∀ fl cells, s'.fill fl parts.toList cells = s.fill fl parts.toList cells := fun fl cells => fill_congr hs ha fl parts.toList cells (fun p hp => hev p.2 (by simp only [hop, Op.operands]; exact List.mem_map.2 ⟨p, hp, rfl⟩))
    simp only [e, hN0]
    cases ht : tiOf P t with
    | none => simp
    | some ti =>
      simp only
      cases hsh : ti.sh with
      | slice E =>
        simp only
        cases he : tiOf P E with
        | none => simp
        | some te =>
          simp only
          cases hf : s.fill (places te.size E n 0) parts.toList (List.replicate (n * te.size) .any) with
          | none => simp
          | some out' =>
            obtain ⟨vals, hv⟩ := fill_rep hs _ _ _ _ (List.replicate (n * te.size) Go.undef) (RepAs.any _ _ (by simp)) hf
            simp only [pks_congr ha hv]
      | _ => simp [hsh]
  | call c =>
    obtain ⟨callee, args, ts⟩ := c
    cases callee with
    | value fo =>
      have e := hev fo (by simp [hop, Op.operands, Call.operands])
      have e1 : args.toList.map s'.ev = args.toList.map s.ev := List.map_congr_left (fun x hx => hev x (by simp [hop, Op.operands, Call.operands]; right; simpa using hx))
      obtain ⟨e2, e3⟩ := viewVs_congr hs ha args.toList
      simp only [e, e1, e2, e3]
      cases hfo : s.ev fo with
      | one fa =>
        obtain ⟨e4, e5⟩ := callee_congr hs ha (hs.evA hfo)
        cases s.viewVs (args.toList.map s.ev) with
        | none => simp
        | some ds =>
          simp only [e4, e5]
          cases s.callee fa with
          | none => simp
          | some fc =>
            obtain ⟨f, caps⟩ := fc
            simp only
            have hav : ∀ (res : List RV) (kl : List (Nat × Nat)), (res.flatMap RV.cells).length ≤ 900 → (s'.frzs kl).avR (hnd o.dst) res = (s.frzs kl).avR (hnd o.dst) res := fun res kl hl =>
              avR_congr res _ (fun k hk => by rw [frzs_N, frzs_N]; exact hN k (by omega))
            constructor
            · rintro ⟨res, h1, kl, h2, h3⟩
              refine ⟨res, h1, kl, h2, ?_⟩
              rw [← h3] at hsm
              rw [← hav res kl hsm]; exact h3
            · rintro ⟨res, h1, kl, h2, h3⟩
              refine ⟨res, h1, kl, h2, ?_⟩
              rw [← h3] at hsm
              rw [hav res kl hsm]; exact h3
      | _ => simp
    | invoke r m => exact exists_congr fun out' => and_congr_left fun _ => xOut_congr hs ha hev hN0 out'
    | builtin b =>
      have hargs : ∀ x ∈ args.toList, s'.ev x = s.ev x := fun x hx => hev x (by simp [hop, Op.operands, Call.operands]; simpa using hx)
      cases b with
      | len =>
        simp only
        constructor
        · rintro ⟨x, t, rfl, rfl, h⟩
          refine ⟨x, t, rfl, rfl, ?_⟩
          rw [hargs x (by simp)] at h
          revert h
          cases tiOf P t with
          | none => simp
          | some ti =>
          cases hx : s.ev x with
          | one p => simp only [len_congr ha (hs.evA hx)]; exact id
          | _ => simp
        · rintro ⟨x, t, rfl, rfl, h⟩
          refine ⟨x, t, rfl, rfl, ?_⟩
          rw [hargs x (by simp)]
          revert h
          cases tiOf P t with
          | none => simp
          | some ti =>
          cases hx : s.ev x with
          | one p => simp only [len_congr ha (hs.evA hx)]; exact id
          | _ => simp
      | min =>
        simp only
        constructor
        · rintro ⟨x, y, rfl, h⟩
          exact ⟨x, y, rfl, by rw [hargs x (by simp), hargs y (by simp)] at h; exact h⟩
        · rintro ⟨x, y, rfl, h⟩
          exact ⟨x, y, rfl, by rw [hargs x (by simp), hargs y (by simp)]; exact h⟩
      | max =>
        simp only
        constructor
        · rintro ⟨x, y, rfl, h⟩
          exact ⟨x, y, rfl, by rw [hargs x (by simp), hargs y (by simp)] at h; exact h⟩
        · rintro ⟨x, y, rfl, h⟩
          exact ⟨x, y, rfl, by rw [hargs x (by simp), hargs y (by simp)]; exact h⟩
      | append =>
        simp only
        constructor
        · rintro ⟨x, y, t, rfl, rfl, h⟩
          refine ⟨x, y, t, rfl, rfl, ?_⟩
          rw [hargs x (by simp), hargs y (by simp)] at h
          revert h
          cases tiOf P t with
          | none => simp
          | some ti =>
          cases hx : s.ev x with
          | one p =>
            cases hy : s.ev y with
            | one q =>
              simp only
              cases ti.sh with
              | slice E =>
                simp only
                cases tiOf P E with
                | none => simp
                | some te =>
                  cases zeroOf P E with
                  | none => simp
                  | some z => simp only [dst_congr ha (hs.evA hx), src_congr ha (hs.evA hy), hN0]; exact id
              | _ => simp
            | _ => simp
          | _ => simp
        · rintro ⟨x, y, t, rfl, rfl, h⟩
          refine ⟨x, y, t, rfl, rfl, ?_⟩
          rw [hargs x (by simp), hargs y (by simp)]
          revert h
          cases tiOf P t with
          | none => simp
          | some ti =>
          cases hx : s.ev x with
          | one p =>
            cases hy : s.ev y with
            | one q =>
              simp only
              cases ti.sh with
              | slice E =>
                simp only
                cases tiOf P E with
                | none => simp
                | some te =>
                  cases zeroOf P E with
                  | none => simp
                  | some z => simp only [dst_congr ha (hs.evA hx), src_congr ha (hs.evA hy), hN0]; exact id
              | _ => simp
            | _ => simp
          | _ => simp
      | _ => exact exists_congr fun out' => and_congr_left fun _ => xOut_congr hs ha hev hN0 out'
  | _ => exact exists_congr fun out' => and_congr_left fun _ => xOut_congr hs ha hev hN0 out'

end
end Go.AV
