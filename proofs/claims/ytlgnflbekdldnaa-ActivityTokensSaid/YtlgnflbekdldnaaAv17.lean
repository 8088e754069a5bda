/- Regions of open order: two operations that do not touch each other may change places; so one walk, in the order of the text, stands for all. -/
import Derived.Test.YtlgnflbekdldnaaAv16
set_option linter.unusedVariables false
set_option linter.unusedSimpArgs false
namespace Go.AV
open Go.RowKit

section
variable {B : Nat → Prop} {nt : Nat} {w0 : Base} {w : World} {s s' : AS} {a : Act} {gv : GV} {P : Program} {o : Oper} {K : AS → Prop}

/-! ### The states that outcomes make -/
/-- New blocks, all at once. -/
def AS.newB (s : AS) (f : Nat → Option Blk) : AS :=
  { s with H := fun i v => if v = s.N i then (match f i with | some b => some b | none => s.H i v) else s.H i v, N := fun i => if (f i).isSome then s.N i + 1 else s.N i }

theorem AS.ext {s s' : AS} (h1 : s.t = s'.t) (h2 : s.H = s'.H) (h3 : s.N = s'.N) : s = s' := by cases s; cases s'; simp_all

def Out.f : Out → Nat → Option Blk
  | .make h b _ => fun i => if i = h then some b else none
  | .built _ h b _ => fun i => if i = h then some b else none
  | .packed _ h b _ => fun i => if i = h then some b else none
  | .call _ base rs _ => fun i => (newOf base rs [] i).map (·.1)
  | _ => fun _ => none
def Out.v : Out → AV
  | .val v | .make _ _ v | .built _ _ _ v | .packed _ _ _ v | .call _ _ _ v => v
  | .store _ _ _ _ => .undef

theorem new_eq (s : AS) (h : Nat) (b : Blk) : s.new h b = s.newB (fun i => if i = h then some b else none) := by
  refine AS.ext rfl ?_ ?_
  · funext i v
    simp only [AS.new, AS.newB]
    by_cases hi : i = h
    · subst hi; by_cases hv : v = s.N i <;> simp [hv]
    · simp [hi]
  · funext i
    simp only [AS.new, AS.newB]
    by_cases hi : i = h
    · subst hi; simp
    · simp [hi]

theorem newF_eq (s : AS) (F : Nat → Option (Blk × Value)) : s.newF F = s.newB (fun i => (F i).map (·.1)) := by
  refine AS.ext rfl ?_ ?_
  · funext i v
    simp only [AS.newF, AS.newB]
    cases F i with
    | none => rfl
    | some p => rfl
  · funext i
    simp only [AS.newF, AS.newB, Option.isSome_map]

theorem newB_none (s : AS) : s.newB (fun _ => none) = s := by
  refine AS.ext rfl ?_ ?_
  · funext i v; simp [AS.newB]
  · funext i; simp [AS.newB]

theorem apply_eq {out : Out} (h : out.quiet) (s : AS) (d : Option Tmp) : out.apply s d = (s.newB out.f).put d out.v := by
  cases out with
  | val v => simp only [Out.apply, Out.f, Out.v, newB_none]
  | make h b v => simp only [Out.apply, Out.f, Out.v, new_eq]
  | built l h b v => simp only [Out.quiet] at h; subst h; simp only [Out.apply, Out.f, Out.v, ← new_eq]; rfl
  | packed l h b v => simp only [Out.quiet] at h; subst h; simp only [Out.apply, Out.f, Out.v, ← new_eq]; rfl
  | call l base rs v =>
    simp only [Out.quiet] at h
    obtain ⟨rfl, _⟩ := h
    simp only [Out.apply, Out.f, Out.v]
    rw [← newF_eq, ← take_eq]
    rfl
  | store => exact h.elim

theorem put_H (s : AS) (d : Option Tmp) (v : AV) : (s.put d v).H = s.H := by cases d <;> rfl
theorem put_N (s : AS) (d : Option Tmp) (v : AV) : (s.put d v).N = s.N := by cases d <;> rfl

theorem put_put (s : AS) (d e : Tmp) (v u : AV) (h : d ≠ e) : (s.put (some d) v).put (some e) u = (s.put (some e) u).put (some d) v := by
  refine AS.ext ?_ rfl rfl
  funext i
  simp only [AS.put]
  by_cases h1 : i = e
  · subst h1; simp [show i ≠ d from fun e => h e.symm]
  · by_cases h2 : i = d
    · subst h2; simp [h1]
    · simp [h1, h2]

theorem put_newB (s : AS) (d : Option Tmp) (v : AV) (f : Nat → Option Blk) : (s.put d v).newB f = (s.newB f).put d v := by
  cases d <;> rfl

theorem newB_newB (s : AS) (f g : Nat → Option Blk) (h : ∀ i, f i = none ∨ g i = none) : (s.newB f).newB g = (s.newB g).newB f := by
  refine AS.ext rfl ?_ ?_
  · funext i v
    rcases h i with h | h
    · simp only [AS.newB, h]
      by_cases hv : v = s.N i <;> cases g i <;> simp [hv]
    · simp only [AS.newB, h]
      by_cases hv : v = s.N i <;> cases f i <;> simp [hv]
  · funext i
    rcases h i with h | h <;> simp [AS.newB, h]

theorem kills_put (l : List (Nat × Nat)) : ∀ (s : AS) (d : Option Tmp) (v : AV), (s.put d v).kills l = (s.kills l).put d v := by
  induction l with
  | nil => intro s d v; rfl
  | cons p l ih => intro s d v; exact (congrArg (fun s : AS => s.kills l) (by cases d <;> rfl : (s.put d v).kill p.1 p.2 = (s.kill p.1 p.2).put d v)).trans (ih (s.kill p.1 p.2) d v)

theorem frzs_put (l : List (Nat × Nat)) : ∀ (s : AS) (d : Option Tmp) (v : AV), (s.put d v).frzs l = (s.frzs l).put d v := by
  induction l with
  | nil => intro s d v; rfl
  | cons p l ih => intro s d v; exact (congrArg (fun s : AS => s.frzs l) (by cases d <;> rfl : (s.put d v).frz p.1 p.2 = (s.frz p.1 p.2).put d v)).trans (ih (s.frz p.1 p.2) d v)

theorem put_take (rs : List R) : ∀ (s : AS) (base : Nat) (d : Option Tmp) (v : AV), (s.put d v).take base rs = (s.take base rs).put d v := by
  induction rs with
  | nil => intro s base d v; rfl
  | cons r rs ih =>
    intro s base d v
    cases r with
    | c x => exact ih s (base + 1) d v
    | own E sz xs => exact (congrArg (fun s : AS => s.take (base + 1) rs) (by cases d <;> rfl : (s.put d v).new base (.arr E sz xs) = (s.new base (.arr E sz xs)).put d v)).trans (ih _ (base + 1) d v)

/-- A slot written changes places with whatever else is left, if that writes another slot. -/
theorem put_apply (s : AS) (d : Tmp) (v : AV) (out : Out) (e : Option Tmp) (h : e ≠ some d) : out.apply (s.put (some d) v) e = (out.apply s e).put (some d) v := by
  have hpp : ∀ (s : AS) (u : AV), (s.put (some d) v).put e u = (s.put e u).put (some d) v := by
    intro s u
    cases e with
    | none => rfl
    | some e => exact put_put s d e v u (fun hh => h (by rw [hh]))
  cases out with
  | val u => exact hpp s u
  | make i b u => exact hpp (s.new i b) u
  | built l i b u => simp only [Out.apply, kills_put]; exact hpp ((s.kills l).new i b) u
  | packed l i b u => simp only [Out.apply, frzs_put]; exact hpp ((s.frzs l).new i b) u
  | call l base rs u => simp only [Out.apply, frzs_put, put_take]; exact hpp _ u
  | store l i u b => simp only [Out.apply, frzs_put]; rfl

/-! ### Which operations do not touch each other -/
def memless (o : Oper) : Bool :=
  match o.op with
  | .move _ | .assign _ | .pick _ _ _ | .extract _ _ | .makeFunc _ _ _ | .binOp _ _ _ _ _ | .unOp _ _ _ | .convert _ _ _ | .field _ _ _ | .index _ _ _ => true
  | .call ⟨.builtin .min, _, _⟩ | .call ⟨.builtin .max, _, _⟩ => true
  | _ => false
def isFieldAddr (o : Oper) : Bool := match o.op with | .fieldAddr _ _ _ => true | _ => false
def isStore (o : Oper) : Bool := match o.op with | .store _ _ _ => true | _ => false

/-- The slots at which an operation looks. -/
def looks (ops : Array Oper) (o : Oper) : List Tmp :=
  (o.op.operands.toList.filterMap fun | .tmp t => some t | _ => none) ++ (match o.guard with | some (j, _) => (guardSlot ops j).toList | none => [])

def indep (ops : Array Oper) (x y : Oper) : Bool :=
  (match x.dst with | some d => !(looks ops y).contains d && y.dst != some d | none => true) &&
  (match y.dst with | some d => !(looks ops x).contains d && x.dst != some d | none => true) &&
  ((!isW x && !isW y && x.dst.isSome && y.dst.isSome) || (isW x && memless y && y.dst.isSome) || (memless x && isW y && x.dst.isSome) || (isStore x && isFieldAddr y && y.dst.isSome) || (isFieldAddr x && isStore y && x.dst.isSome))

/-- What an operation leaves, its guard asked. -/
def gOut (P : Program) (ops : Array Oper) (o : Oper) (s : AS) (out : Out) : Prop :=
  match o.guard with
  | none => aOut P o s (· = out)
  | some (j, want) => match guardSlot ops j with
    | some d => match s.t d with
      | .one (.c (.bool b)) => if b = want then aOut P o s (· = out) else out = .val (.tup [])
      | .tup [] => out = .val (.tup [])
      | _ => False
    | none => False

/-- What may be left within a region of open order. -/
def dynOk (o : Oper) (out : Out) : Prop := (isW o = false → out.quiet) ∧ (match out with | .store l _ _ _ => l = [] | _ => True) ∧ out.small

theorem quiet_small {out : Out} (h : out.quiet) : out.small := by
  cases out with
  | call => exact h.2
  | _ => trivial

/-- What is frozen is the same. -/
def SameFrz (s s' : AS) : Prop := ∀ h v xs, v < s.N h → (s'.H h v = some (.frz xs) ↔ s.H h v = some (.frz xs))
theorem SameFrz.of (h : s'.H = s.H) : SameFrz s s' := fun i v xs _ => by rw [h]
theorem Agree.frz (h : Agree s s') : SameFrz s s' := fun i v xs hv => by rw [h i v hv]

theorem ev_same (hs : SimG B nt w0 s a w gv) (hf : SameFrz s s') {x : Operand} (ht : ∀ t, x = .tmp t → s'.t t = s.t t) : s'.ev x = s.ev x := by
  cases x with
  | tmp t =>
    simp only [AS.ev, ht t rfl]
    have hr := hs.tmps t
    generalize s.t t = y at hr
    cases y with
    | one y =>
      cases y with
      | own h v =>
        have hv : v < s.N h := by cases hr with | one hr => cases hr with | own hv _ => exact hv
        simp only [AS.nrm]
        cases e : s.H h v with
        | none =>
          cases e2 : s'.H h v with
          | none => rfl
          | some b =>
            cases b with
            | frz xs => rw [(hf h v xs hv).1 e2] at e; cases e
            | _ => rfl
        | some b =>
          cases b with
          | frz xs => rw [(hf h v xs hv).2 e]
          | _ =>
            cases e2 : s'.H h v with
            | none => rfl
            | some b2 =>
              cases b2 with
              | frz xs => rw [(hf h v xs hv).1 e2] at e; cases e
              | _ => rfl
      | _ => rfl
    | _ => rfl
  | _ => rfl

theorem apply_t (out : Out) (s : AS) (d : Option Tmp) (i : Nat) (h : d ≠ some i) : (out.apply s d).t i = s.t i := by
  have hp : ∀ (s' : AS) (v : AV), s'.t = s.t → (s'.put d v).t i = s.t i := by
    intro s' v hs
    cases d with
    | none => exact congrFun hs i
    | some d => simp only [AS.put]; rw [if_neg (fun e => h (by rw [e]))]; exact congrFun hs i
  have htake : ∀ (rs : List R) (s' : AS) (base : Nat), (s'.take base rs).t = s'.t := by
    intro rs
    induction rs with
    | nil => intro s' base; rfl
    | cons r rs ih =>
      intro s' base
      cases r with
      | c => exact ih s' _
      | own E sz xs => exact (ih _ _).trans rfl
  cases out with
  | val v => exact hp s v rfl
  | make i' b v => exact hp _ v rfl
  | built l i' b v => exact hp _ v (kills_t l s)
  | packed l i' b v => exact hp _ v (frzs_t l s)
  | call l base rs v => exact hp _ v ((htake rs _ base).trans (frzs_t l s))
  | store l h' v b => simp only [Out.apply, AS.set]; rw [frzs_t]

theorem mem_looks {ops : Array Oper} {o : Oper} {t : Tmp} (h : Operand.tmp t ∈ o.op.operands.toList) : t ∈ looks ops o :=
  List.mem_append_left _ (List.mem_filterMap.2 ⟨.tmp t, h, rfl⟩)
theorem guard_looks {ops : Array Oper} {o : Oper} {j : Nat} {b : Bool} {t : Tmp} (h : o.guard = some (j, b)) (hg : guardSlot ops j = some t) : t ∈ looks ops o := by
  refine List.mem_append_right _ ?_
  rw [h]
  simp [hg]

/-- The same outcome at two states that agree on what the operation looks at. -/
theorem gOut_of {ops : Array Oper} (d : Option Tmp) (hd : ∀ t ∈ looks ops o, d ≠ some t) {out0 : Out} {out : Out} (hc : aOut P o (out0.apply s d) (· = out) ↔ aOut P o s (· = out)) : gOut P ops o (out0.apply s d) out ↔ gOut P ops o s out := by
  unfold gOut
  cases hg : o.guard with
  | none => exact hc
  | some p =>
    obtain ⟨j, want⟩ := p
    simp only
    cases hs : guardSlot ops j with
    | none => rfl
    | some t =>
      simp only
      rw [apply_t out0 s d t (hd t (guard_looks hg hs))]
      cases s.t t with
      | one x => cases x with
        | c x => cases x with
          | bool b => simp only; by_cases hb : b = want <;> simp [hb, hc]
          | _ => rfl
        | _ => rfl
      | tup xs => cases xs <;> rfl
      | _ => rfl

theorem aOut_memless (hm : memless o = true) (hev : ∀ x ∈ o.op.operands.toList, s'.ev x = s.ev x) (out : Out) : (aOut P o s' (· = out) ↔ aOut P o s (· = out)) ∧ (aOut P o s (· = out) → ∃ v, out = .val v) := by
  unfold aOut
  cases hop : o.op with
  | move x => exact ⟨by simp only [hev x (by simp [hop, Op.operands])], fun h => ⟨_, h.symm⟩⟩
  | assign x => exact ⟨by simp only [hev x (by simp [hop, Op.operands])], fun h => ⟨_, h.symm⟩⟩
  | pick c x y =>
    refine ⟨by simp only [hev c (by simp [hop, Op.operands]), hev x (by simp [hop, Op.operands]), hev y (by simp [hop, Op.operands])], fun h => ?_⟩
    simp only at h
    split at h
    · exact ⟨_, h.symm⟩
    · exact h.elim
  | extract x i =>
    refine ⟨by simp only [hev x (by simp [hop, Op.operands])], fun h => ?_⟩
    simp only at h
    split at h
    · exact ⟨_, h.2.symm⟩
    · exact h.elim
  | makeFunc fn first caps =>
    cases fn with
    | func f =>
      have : caps.toList.map s'.ev = caps.toList.map s.ev := List.map_congr_left (fun x hx => hev x (by simp [hop, Op.operands]; right; simpa using hx))
      refine ⟨by simp only [this], fun h => ?_⟩
      obtain ⟨_, h⟩ := h
      split at h
      · exact ⟨_, h.symm⟩
      · exact h.elim
    | _ => simp [xOut, hop]
  | field t p f =>
    refine ⟨by simp only [hev p (by simp [hop, Op.operands])], fun h => ?_⟩
    simp only at h
    split at h
    · obtain ⟨_, h⟩ := h
      split at h
      · split at h
        · exact ⟨_, h.2.2.2.symm⟩
        · exact h.elim
      · exact h.elim
    · exact h.elim
  | index t x ix =>
    refine ⟨by simp only [hev x (by simp [hop, Op.operands]), hev ix (by simp [hop, Op.operands])], fun h => ?_⟩
    simp only at h
    split at h
    · exact ⟨_, h.2.2.2.symm⟩
    · exact h.elim
  | binOp op t x y t' =>
    refine ⟨by simp only [hev x (by simp [hop, Op.operands]), hev y (by simp [hop, Op.operands])], fun h => ?_⟩
    simp only at h
    split at h
    · split at h
      · exact ⟨_, h.2.symm⟩
      · exact h.elim
    · split at h
      · exact ⟨_, h.symm⟩
      · exact h.elim
    · split at h
      · rename_i p hx hy ti T ht hT
        have : T true ∨ T false := by
          unfold nilTest at hT
          split at hT
          · cases hT; exact .inl rfl
          · cases hT; exact .inr (fun _ => rfl)
          · cases hT
        rcases this with hh | hh <;> exact ⟨_, (h.2.2.2 _ hh).symm⟩
      · exact h.elim
    · split at h
      · exact ⟨_, h.symm⟩
      · exact h.elim
    · exact h.elim
  | unOp op t x =>
    refine ⟨by simp only [hev x (by simp [hop, Op.operands])], fun h => ?_⟩
    simp only at h
    split at h
    · exact ⟨_, h.symm⟩
    · exact ⟨_, h.symm⟩
    · exact h.elim
  | convert t u x =>
    refine ⟨by simp only [hev x (by simp [hop, Op.operands])], fun h => ?_⟩
    simp only at h
    split at h
    · exact ⟨_, h.symm⟩
    · exact h.elim
  | call c =>
    obtain ⟨callee, args, ts⟩ := c
    cases callee with
    | builtin b =>
      have hargs : ∀ x ∈ args.toList, s'.ev x = s.ev x := fun x hx => hev x (by simp [hop, Op.operands, Call.operands]; simpa using hx)
      cases b with
      | min =>
        simp only
        refine ⟨⟨?_, ?_⟩, ?_⟩
        · rintro ⟨x, y, rfl, h⟩
          exact ⟨x, y, rfl, by rw [hargs x (by simp), hargs y (by simp)] at h; exact h⟩
        · rintro ⟨x, y, rfl, h⟩
          exact ⟨x, y, rfl, by rw [hargs x (by simp), hargs y (by simp)]; exact h⟩
        · rintro ⟨x, y, rfl, h⟩
          split at h
          · exact ⟨_, h.2.symm⟩
          · exact h.elim
      | max =>
        simp only
        refine ⟨⟨?_, ?_⟩, ?_⟩
        · rintro ⟨x, y, rfl, h⟩
          exact ⟨x, y, rfl, by rw [hargs x (by simp), hargs y (by simp)] at h; exact h⟩
        · rintro ⟨x, y, rfl, h⟩
          exact ⟨x, y, rfl, by rw [hargs x (by simp), hargs y (by simp)]; exact h⟩
        · rintro ⟨x, y, rfl, h⟩
          split at h
          · exact ⟨_, h.2.symm⟩
          · exact h.elim
      | _ => simp [memless, hop] at hm
    | _ => simp [memless, hop] at hm
  | _ => simp [memless, hop] at hm

end
end Go.AV
