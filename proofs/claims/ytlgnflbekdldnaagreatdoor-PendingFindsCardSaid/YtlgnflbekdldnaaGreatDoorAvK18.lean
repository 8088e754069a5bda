/- Texts Av18. -/
import Derived.Test.YtlgnflbekdldnaaGreatDoorAvK17
set_option linter.unusedVariables false
set_option linter.unusedSimpArgs false
set_option linter.unusedSectionVars false
noncomputable section
namespace Go.AV
open Go.RowKit
section
variable {B : Nat → Prop} {nt : Nat} {w0 : Base} {w : World} {s s' : AS} {a : Act} {gv : GV} {P : Program} {o : Oper} {K : AS → Prop} [InvC P B w0]
def AS.newB (s : AS) (f : Nat → Option Blk) : AS :=
  { s with H := fun i v => if v = s.N i then (match f i with | some b => some b | none => s.H i v) else s.H i v, N := fun i => if (f i).isSome then s.N i + 1 else s.N i }
theorem AS.ext {s s' : AS} (h1 : s.t = s'.t) (h2 : s.H = s'.H) (h3 : s.N = s'.N) : s = s' := by cases s; cases s'; simp_all
def Out.f : Out → Nat → Option Blk
  | .make h b _ => fun i => if i = h then some b else none
  | .built _ h b _ => fun i => if i = h then some b else none
  | .packed _ h b _ => fun i => if i = h then some b else none
  | .call _ base rs _ => fun i => (newOf base rs [] i).map (·.1)
  | _ => fun _ => none
def Out.v : Out → AV
  | .val v | .make _ _ v | .built _ _ _ v | .packed _ _ _ v | .call _ _ _ v => v
  | .store _ _ _ _ => .undef
theorem new_eq (s : AS) (h : Nat) (b : Blk) : s.new h b = s.newB (fun i => if i = h then some b else none) := by
  refine AS.ext rfl ?_ ?_
  · funext i v
    simp only [AS.new, AS.newB]
    by_cases hi : i = h
    · subst hi; by_cases hv : v = s.N i <;> simp [hv]
    · simp [hi]
  · funext i
    simp only [AS.new, AS.newB]
    by_cases hi : i = h
    · subst hi; simp
    · simp [hi]
theorem newF_eq (s : AS) (F : Nat → Option (Blk × Value)) : s.newF F = s.newB (fun i => (F i).map (·.1)) := by
  refine AS.ext rfl ?_ ?_
  · funext i v
    simp only [AS.newF, AS.newB]
    cases F i with
    | none => rfl
    | some p => rfl
  · funext i
    simp only [AS.newF, AS.newB, Option.isSome_map]
theorem newB_none (s : AS) : s.newB (fun _ => none) = s := by
  refine AS.ext rfl ?_ ?_
  · funext i v; simp [AS.newB]
  · funext i; simp [AS.newB]
theorem apply_eq {out : Out} (h : out.quiet) (s : AS) (d : Option Tmp) : out.apply s d = (s.newB out.f).put d out.v := by
  cases out with
  | val v => simp only [Out.apply, Out.f, Out.v, newB_none]
  | make h b v => simp only [Out.apply, Out.f, Out.v, new_eq]
  | built l h b v => simp only [Out.quiet] at h; subst h; simp only [Out.apply, Out.f, Out.v, ← new_eq]; rfl
  | packed l h b v => simp only [Out.quiet] at h; subst h; simp only [Out.apply, Out.f, Out.v, ← new_eq]; rfl
  | call l base rs v =>
    simp only [Out.quiet] at h
    obtain ⟨rfl, _⟩ := h
    simp only [Out.apply, Out.f, Out.v]
    rw [← newF_eq, ← take_eq]
    rfl
  | store => exact h.elim
theorem put_H (s : AS) (d : Option Tmp) (v : AV) : (s.put d v).H = s.H := by cases d <;> rfl
theorem put_N (s : AS) (d : Option Tmp) (v : AV) : (s.put d v).N = s.N := by cases d <;> rfl
theorem put_put (s : AS) (d e : Tmp) (v u : AV) (h : d ≠ e) : (s.put (some d) v).put (some e) u = (s.put (some e) u).put (some d) v := by
  refine AS.ext ?_ rfl rfl
  funext i
  simp only [AS.put]
  by_cases h1 : i = e
  · subst h1; simp [show i ≠ d from fun e => h e.symm]
  · by_cases h2 : i = d
    · subst h2; simp [h1]
    · simp [h1, h2]
theorem put_newB (s : AS) (d : Option Tmp) (v : AV) (f : Nat → Option Blk) : (s.put d v).newB f = (s.newB f).put d v := by
  cases d <;> rfl
theorem newB_newB (s : AS) (f g : Nat → Option Blk) (h : ∀ i, f i = none ∨ g i = none) : (s.newB f).newB g = (s.newB g).newB f := by
  refine AS.ext rfl ?_ ?_
  · funext i v
    rcases h i with h | h
    · simp only [AS.newB, h]
      by_cases hv : v = s.N i <;> cases g i <;> simp [hv]
    · simp only [AS.newB, h]
      by_cases hv : v = s.N i <;> cases f i <;> simp [hv]
  · funext i
    rcases h i with h | h <;> simp [AS.newB, h]
theorem kills_put (l : List (Nat × Nat)) : ∀ (s : AS) (d : Option Tmp) (v : AV), (s.put d v).kills l = (s.kills l).put d v := by
  induction l with
  | nil => intro s d v; rfl
  | cons p l ih => intro s d v; exact (congrArg (fun s : AS => s.kills l) (by cases d <;> rfl : (s.put d v).kill p.1 p.2 = (s.kill p.1 p.2).put d v)).trans (ih (s.kill p.1 p.2) d v)
theorem frzs_put (l : List (Nat × Nat)) : ∀ (s : AS) (d : Option Tmp) (v : AV), (s.put d v).frzs l = (s.frzs l).put d v := by
  induction l with
  | nil => intro s d v; rfl
  | cons p l ih => intro s d v; exact (congrArg (fun s : AS => s.frzs l) (by cases d <;> rfl : (s.put d v).frz p.1 p.2 = (s.frz p.1 p.2).put d v)).trans (ih (s.frz p.1 p.2) d v)
theorem put_take (rs : List R) : ∀ (s : AS) (base : Nat) (d : Option Tmp) (v : AV), (s.put d v).take base rs = (s.take base rs).put d v := by
  induction rs with
  | nil => intro s base d v; rfl
  | cons r rs ih =>
    intro s base d v
    cases r with
    | c x => exact ih s (base + 1) d v
    | own E sz xs => exact (congrArg (fun s : AS => s.take (base + 1) rs) (by cases d <;> rfl : (s.put d v).new base (.arr E sz xs) = (s.new base (.arr E sz xs)).put d v)).trans (ih _ (base + 1) d v)
theorem put_apply (s : AS) (d : Tmp) (v : AV) (out : Out) (e : Option Tmp) (h : e ≠ some d) : out.apply (s.put (some d) v) e = (out.apply s e).put (some d) v := by
  have hpp : ∀ (s : AS) (u : AV), (s.put (some d) v).put e u = (s.put e u).put (some d) v := by
    intro s u
    cases e with
    | none => rfl
    | some e => exact put_put s d e v u (fun hh => h (by rw [hh]))
  cases out with
  | val u => exact hpp s u
  | make i b u => exact hpp (s.new i b) u
  | built l i b u => simp only [Out.apply, kills_put]; exact hpp ((s.kills l).new i b) u
  | packed l i b u => simp only [Out.apply, frzs_put]; exact hpp ((s.frzs l).new i b) u
  | call l base rs u => simp only [Out.apply, frzs_put, put_take]; exact hpp _ u
  | store l i u b => simp only [Out.apply, frzs_put]; rfl
def memless (o : Oper) : Bool :=
  match o.op with
  | .move _ | .assign _ | .pick _ _ _ | .extract _ _ | .makeFunc _ _ _ | .binOp _ _ _ _ _ | .unOp _ _ _ | .convert _ _ _ | .field _ _ _ | .index _ _ _ => true
  | .call ⟨.builtin .min, _, _⟩ | .call ⟨.builtin .max, _, _⟩ => true
  | _ => false
def isFieldAddr (o : Oper) : Bool := match o.op with | .fieldAddr _ _ _ => true | .nilCheck _ => true | _ => false
def isStore (o : Oper) : Bool := match o.op with | .store _ _ _ => true | _ => false
def looks (ops : Array Oper) (o : Oper) : List Tmp :=
  (o.op.operands.toList.filterMap fun | .tmp t => some t | _ => none) ++ (match o.guard with | some (j, _) => (guardSlot ops j).toList | none => [])
def indep (ops : Array Oper) (x y : Oper) : Bool :=
  (match x.dst with | some d => !(looks ops y).contains d && y.dst != some d | none => true) &&
  (match y.dst with | some d => !(looks ops x).contains d && x.dst != some d | none => true) &&
  ((!isW x && !isW y && x.dst.isSome && y.dst.isSome) || (isW x && memless y && y.dst.isSome) || (memless x && isW y && x.dst.isSome) || (isStore x && isFieldAddr y && y.dst.isSome) || (isFieldAddr x && isStore y && x.dst.isSome))
def gOut (P : Program) (ops : Array Oper) (o : Oper) (s : AS) (out : Out) : Prop :=
  match o.guard with
  | none => aOut P o s (· = out)
  | some (j, want) => match guardSlot ops j with
    | some d => match s.t d with
      | .one (.c (.bool b)) => if b = want then aOut P o s (· = out) else out = .val (.tup [])
      | .tup [] => out = .val (.tup [])
      | _ => False
    | none => False
def dynOk (o : Oper) (out : Out) : Prop := (isW o = false → out.quiet) ∧ (match out with | .store l _ _ _ => l = [] | _ => True) ∧ out.small
def SameFrz (s s' : AS) : Prop := ∀ h v xs, v < s.N h → (s'.H h v = some (.frz xs) ↔ s.H h v = some (.frz xs))
theorem SameFrz.of (h : s'.H = s.H) : SameFrz s s' := fun i v xs _ => by rw [h]
theorem Agree.frz (h : Agree s s') : SameFrz s s' := fun i v xs hv => by rw [h i v hv]
theorem ev_same (hs : SimG B nt w0 s a w gv) (hf : SameFrz s s') {x : Operand} (ht : ∀ t, x = .tmp t → s'.t t = s.t t) : s'.ev x = s.ev x := by
  cases x with
  | tmp t =>
    simp only [AS.ev, ht t rfl]
    have hr := hs.tmps t
    generalize s.t t = y at hr
    cases y with
    | one y =>
      cases y with
      | own h v =>
        have hv : v < s.N h := by cases hr with | one hr => cases hr with | own hv _ => exact hv
        simp only [AS.nrm]
        cases e : s.H h v with
        | none =>
          cases e2 : s'.H h v with
          | none => rfl
          | some b =>
            cases b with
            | frz xs => rw [(hf h v xs hv).1 e2] at e; cases e
            | _ => rfl
        | some b =>
          cases b with
          | frz xs => rw [(hf h v xs hv).2 e]
          | _ =>
            cases e2 : s'.H h v with
            | none => rfl
            | some b2 =>
              cases b2 with
              | frz xs => rw [(hf h v xs hv).1 e2] at e; cases e
              | _ => rfl
      | _ => rfl
    | _ => rfl
  | _ => rfl
theorem apply_t (out : Out) (s : AS) (d : Option Tmp) (i : Nat) (h : d ≠ some i) : (out.apply s d).t i = s.t i := by
  have hp : ∀ (s' : AS) (v : AV), s'.t = s.t → (s'.put d v).t i = s.t i := by
    intro s' v hs
    cases d with
    | none => exact congrFun hs i
    | some d => simp only [AS.put]; rw [if_neg (fun e => h (by rw [e]))]; exact congrFun hs i
  have htake : ∀ (rs : List R) (s' : AS) (base : Nat), (s'.take base rs).t = s'.t := by
    intro rs
    induction rs with
    | nil => intro s' base; rfl
    | cons r rs ih =>
      intro s' base
      cases r with
      | c => exact ih s' _
      | own E sz xs => exact (ih _ _).trans rfl
  cases out with
  | val v => exact hp s v rfl
  | make i' b v => exact hp _ v rfl
  | built l i' b v => exact hp _ v (kills_t l s)
  | packed l i' b v => exact hp _ v (frzs_t l s)
  | call l base rs v => exact hp _ v ((htake rs _ base).trans (frzs_t l s))
  | store l h' v b => simp only [Out.apply, AS.set]; rw [frzs_t]
theorem mem_looks {ops : Array Oper} {o : Oper} {t : Tmp} (h : Operand.tmp t ∈ o.op.operands.toList) : t ∈ looks ops o :=
  List.mem_append_left _ (List.mem_filterMap.2 ⟨.tmp t, h, rfl⟩)
theorem guard_looks {ops : Array Oper} {o : Oper} {j : Nat} {b : Bool} {t : Tmp} (h : o.guard = some (j, b)) (hg : guardSlot ops j = some t) : t ∈ looks ops o := by
  refine List.mem_append_right _ ?_
  rw [h]
  simp [hg]
theorem gOut_of {ops : Array Oper} (d : Option Tmp) (hd : ∀ t ∈ looks ops o, d ≠ some t) {out0 : Out} {out : Out} (hc : aOut P o (out0.apply s d) (· = out) ↔ aOut P o s (· = out)) : gOut P ops o (out0.apply s d) out ↔ gOut P ops o s out := by
  unfold gOut
  cases hg : o.guard with
  | none => exact hc
  | some p =>
    obtain ⟨j, want⟩ := p
    simp only
    cases hs : guardSlot ops j with
    | none => rfl
    | some t =>
      simp only
      rw [apply_t out0 s d t (hd t (guard_looks hg hs))]
      cases s.t t with
      | one x => cases x with
        | c x => cases x with
          | bool b => simp only; by_cases hb : b = want <;> simp [hb, hc]
          | _ => rfl
        | _ => rfl
      | tup xs => cases xs <;> rfl
      | _ => rfl
theorem aOut_memless (hm : memless o = true) (hev : ∀ x ∈ o.op.operands.toList, s'.ev x = s.ev x) (out : Out) : (aOut P o s' (· = out) ↔ aOut P o s (· = out)) ∧ (aOut P o s (· = out) → ∃ v, out = .val v) := by
  unfold aOut
  cases hop : o.op with
  | move x => exact ⟨by simp only [hev x (by simp [hop, Op.operands])], fun h => ⟨_, h.symm⟩⟩
  | assign x => exact ⟨by simp only [hev x (by simp [hop, Op.operands])], fun h => ⟨_, h.symm⟩⟩
  | pick c x y =>
    refine ⟨by simp only [hev c (by simp [hop, Op.operands]), hev x (by simp [hop, Op.operands]), hev y (by simp [hop, Op.operands])], fun h => ?_⟩
    simp only at h
    split at h
    · exact ⟨_, h.symm⟩
    · exact h.elim
  | extract x i =>
    refine ⟨by simp only [hev x (by simp [hop, Op.operands])], fun h => ?_⟩
    simp only at h
    split at h
    · exact ⟨_, h.2.symm⟩
    · exact h.elim
  | makeFunc fn first caps =>
    cases fn with
    | func f =>
      have : caps.toList.map s'.ev = caps.toList.map s.ev := List.map_congr_left (fun x hx => hev x (by simp [hop, Op.operands]; right; simpa using hx))
      refine ⟨by simp only [this], fun h => ?_⟩
      obtain ⟨_, h⟩ := h
      split at h
      · exact ⟨_, h.symm⟩
      · exact h.elim
    | _ => simp [xOut, hop]
  | field t p f =>
    refine ⟨by simp only [hev p (by simp [hop, Op.operands])], fun h => ?_⟩
    simp only at h
    split at h
    · obtain ⟨_, h⟩ := h
      split at h
      · split at h
        · exact ⟨_, h.2.2.2.symm⟩
        · exact h.elim
      · exact h.elim
    · exact h.elim
  | index t x ix =>
    refine ⟨by simp only [hev x (by simp [hop, Op.operands]), hev ix (by simp [hop, Op.operands])], fun h => ?_⟩
    simp only at h
    split at h
    · exact ⟨_, h.2.2.2.symm⟩
    · exact h.elim
  | binOp op t x y t' =>
    refine ⟨by simp only [hev x (by simp [hop, Op.operands]), hev y (by simp [hop, Op.operands])], fun h => ?_⟩
    simp only at h
    split at h
    · split at h
      · exact ⟨_, h.2.symm⟩
      · exact h.elim
    · split at h
      · exact ⟨_, h.symm⟩
      · exact h.elim
    · split at h
      · rename_i p hx hy ti T ht hT
        have : T true ∨ T false := by
          unfold nilTest at hT
          split at hT
          · cases hT; exact .inl rfl
          · cases hT; exact .inr (fun _ => rfl)
          · cases hT
        rcases this with hh | hh <;> exact ⟨_, (h.2.2.2 _ hh).symm⟩
      · exact h.elim
    · split at h
      · exact ⟨_, h.symm⟩
      · exact h.elim
    · exact h.elim
  | unOp op t x =>
    refine ⟨by simp only [hev x (by simp [hop, Op.operands])], fun h => ?_⟩
    simp only at h
    split at h
    · exact ⟨_, h.symm⟩
    · exact ⟨_, h.symm⟩
    · exact h.elim
  | convert t u x =>
    refine ⟨by simp only [hev x (by simp [hop, Op.operands])], fun h => ?_⟩
    simp only at h
    split at h
    · exact ⟨_, h.symm⟩
    · exact h.elim
  | call c =>
    obtain ⟨callee, args, ts⟩ := c
    cases callee with
    | builtin b =>
      have hargs : ∀ x ∈ args.toList, s'.ev x = s.ev x := fun x hx => hev x (by simp [hop, Op.operands, Call.operands]; simpa using hx)
      cases b with
      | min =>
        simp only
        refine ⟨⟨?_, ?_⟩, ?_⟩
        · rintro ⟨x, y, rfl, h⟩
          exact ⟨x, y, rfl, by rw [hargs x (by simp), hargs y (by simp)] at h; exact h⟩
        · rintro ⟨x, y, rfl, h⟩
          exact ⟨x, y, rfl, by rw [hargs x (by simp), hargs y (by simp)]; exact h⟩
        · rintro ⟨x, y, rfl, h⟩
          split at h
          · exact ⟨_, h.2.symm⟩
          · exact h.elim
      | max =>
        simp only
        refine ⟨⟨?_, ?_⟩, ?_⟩
        · rintro ⟨x, y, rfl, h⟩
          exact ⟨x, y, rfl, by rw [hargs x (by simp), hargs y (by simp)] at h; exact h⟩
        · rintro ⟨x, y, rfl, h⟩
          exact ⟨x, y, rfl, by rw [hargs x (by simp), hargs y (by simp)]; exact h⟩
        · rintro ⟨x, y, rfl, h⟩
          split at h
          · exact ⟨_, h.2.symm⟩
          · exact h.elim
      | _ => simp [memless, hop] at hm
    | _ => simp [memless, hop] at hm
  | _ => simp [memless, hop] at hm
end
end Go.AV
namespace Go.AV
open Go.RowKit
section
variable {B : Nat → Prop} {nt : Nat} {w0 : Base} {w : World} {s s' : AS} {a : Act} {gv : GV} {P : Program} {o : Oper} {K : AS → Prop} [InvC P B w0]
def Real (B : Nat → Prop) (nt : Nat) (w0 : Base) (s : AS) : Prop := ∃ a w, Sim B nt w0 s a w
def Out.home (b : Nat) : Out → Prop
  | .make h _ _ => h = b
  | .built _ h _ _ => h = b
  | .packed _ h _ _ => h = b
  | .call _ base _ _ => base = b
  | _ => True
theorem xOut_home {out : Out} (h : xOut P o s out) : out.home (hnd o.dst) := by
  unfold xOut at h
  split at h
  all_goals
    (repeat' first | (obtain ⟨_, h⟩ := h) | (split at h))
    all_goals first
      | trivial
      | rfl
      | exact h.elim
      | (subst h; first | trivial | rfl)
theorem aOut_home {out : Out} (h : aOut P o s (· = out)) : out.home (hnd o.dst) := by
  unfold aOut at h
  split at h
  case h_13 =>
    split at h
    · split at h
      · obtain ⟨_, rfl⟩ := h; trivial
      · exact h.elim
    · split at h
      · subst h; trivial
      · exact h.elim
    · split at h
      · rename_i p hx hy ti T ht hT
        have : T true ∨ T false := by
          unfold nilTest at hT
          split at hT
          · cases hT; exact .inl rfl
          · cases hT; exact .inr (fun _ => rfl)
          · cases hT
        rcases this with hh | hh <;> (have := h.2.2.2 _ hh; subst this; trivial)
      · exact h.elim
    · split at h
      · subst h; trivial
      · exact h.elim
    · exact h.elim
  case h_25 => obtain ⟨_, h, rfl⟩ := h; exact xOut_home h
  all_goals
    (repeat' first | (obtain ⟨_, h⟩ := h) | (split at h))
    all_goals first
      | exact h.elim
      | trivial
      | rfl
      | (subst h; first | trivial | rfl)
theorem nat_ne (d e k k' : Nat) (h : d ≠ e) (hk : k ≤ 900) (hk' : k' ≤ 900) : 1000 * d + k ≠ 1000 * e + k' := by omega
theorem hnd_ne {d e : Tmp} (h : d ≠ e) {k k' : Nat} (hk : k ≤ 900) (hk' : k' ≤ 900) : hnd (some d) + k ≠ hnd (some e) + k' := nat_ne d e k k' h hk hk'
theorem f_home {out : Out} {b : Nat} (h : out.home b) (hq : out.quiet) {i : Nat} (hi : out.f i ≠ none) : ∃ k, k ≤ 900 ∧ i = b + k := by
  cases out with
  | val => exact absurd rfl hi
  | make h' bl v =>
    simp only [Out.home] at h; subst h
    simp only [Out.f] at hi
    split at hi
    · exact ⟨0, by omega, by omega⟩
    · exact absurd rfl hi
  | built l h' bl v =>
    simp only [Out.home] at h; subst h
    simp only [Out.f] at hi
    split at hi
    · exact ⟨0, by omega, by omega⟩
    · exact absurd rfl hi
  | packed l h' bl v =>
    simp only [Out.home] at h; subst h
    simp only [Out.f] at hi
    split at hi
    · exact ⟨0, by omega, by omega⟩
    · exact absurd rfl hi
  | call l base rs v =>
    simp only [Out.home] at h; subst h
    simp only [Out.f, newOf] at hi
    split at hi
    · rename_i hh
      exact ⟨i - base, by have := hq.2; omega, by omega⟩
    · exact absurd rfl hi
  | store => exact hq.elim
theorem gOut_home {ops : Array Oper} {out : Out} (h : gOut P ops o s out) : out.home (hnd o.dst) := by
  unfold gOut at h
  split at h
  · exact aOut_home h
  · split at h
    · split at h
      · split at h
        · exact aOut_home h
        · subst h; trivial
      · subst h; trivial
      · exact h.elim
    · exact h.elim
theorem agree_quiet {out : Out} (hq : out.quiet) (d : Option Tmp) : Agree s (out.apply s d) := by
  intro h v hv
  rw [apply_eq hq, put_H]
  simp only [AS.newB]
  rw [if_neg (by omega)]
theorem N_quiet {out : Out} (hq : out.quiet) (d : Option Tmp) (i : Nat) (hi : out.f i = none) : (out.apply s d).N i = s.N i := by
  rw [apply_eq hq, put_N]
  simp [AS.newB, hi]
theorem aOut_fieldAddr (hm : isFieldAddr o = true) (hev : ∀ x ∈ o.op.operands.toList, s'.ev x = s.ev x) (hH : ∀ h v, s'.H h v = none ↔ s.H h v = none) (out : Out) :
    (aOut P o s' (· = out) ↔ aOut P o s (· = out)) ∧ (aOut P o s (· = out) → ∃ v, out = .val v) := by
  unfold isFieldAddr at hm
  split at hm
  · rename_i t p f hop
    have hpk : ∀ k x, s'.ptrOk k x ↔ s.ptrOk k x := by
      intro k x
      cases x with
      | ptr h v off => exact not_congr (hH h v)
      | eptr h v sz i j => exact not_congr (hH h v)
      | c y => cases y <;> rfl
      | _ => rfl
    unfold aOut
    rw [hop]
    simp only [hev p (by simp [hop, Op.operands]), hpk]
    refine ⟨trivial, fun h => ?_⟩
    split at h
    · obtain ⟨_, h⟩ := h
      split at h
      · exact ⟨_, h.2.2.symm⟩
      · exact h.elim
    · exact h.elim
  · rename_i x hop
    have hpk : ∀ k x, s'.ptrOk k x ↔ s.ptrOk k x := by
      intro k x
      cases x with
      | ptr h v off => exact not_congr (hH h v)
      | eptr h v sz i j => exact not_congr (hH h v)
      | c y => cases y <;> rfl
      | _ => rfl
    unfold aOut xOut
    simp only [hop, hev x (by simp [hop, Op.operands]), hpk]
    refine ⟨trivial, fun h => ?_⟩
    obtain ⟨o', h1, h2⟩ := h
    split at h1
    · exact ⟨_, by rw [← h2, h1.2]⟩
    · exact h1.elim
  · cases hm
theorem gOut_val {ops : Array Oper} {out : Out} (h : gOut P ops o s out) (hv : aOut P o s (· = out) → ∃ v, out = .val v) : ∃ v, out = .val v := by
  unfold gOut at h
  split at h
  · exact hv h
  · split at h
    · split at h
      · split at h
        · exact hv h
        · exact ⟨_, h⟩
      · exact ⟨_, h⟩
      · exact h.elim
    · exact h.elim
theorem store_out {out : Out} {ops : Array Oper} (hm : isStore o = true) (h : gOut P ops o s out) (hd : dynOk o out) : o.dst = none → (out.apply s o.dst = s ∧ ∃ v, out = .val v) ∨ ∃ i v b, out = .store [] i v b ∧ s.H i v ≠ none := by
  intro hdst
  have key : aOut P o s (· = out) → ∃ l i v b, out = .store l i v b ∧ s.H i v ≠ none := by
    intro h
    unfold isStore at hm
    split at hm
    · rename_i t p x hop
      unfold aOut at h
      rw [hop] at h
      obtain ⟨_, h⟩ := h
      split at h
      · rename_i ti h' v off cs _ _ _
        split at h
        · rename_i cells hH
          exact ⟨_, _, _, _, h.2.symm, by rw [hH]; simp⟩
        · exact h.elim
      · rename_i ti h' v sz i j cs _ _ _
        split at h
        · rename_i E sz' xs ys hH _
          exact ⟨_, _, _, _, h.2.symm, by rw [hH]; simp⟩
        · exact h.elim
      · exact h.elim
    · cases hm
  have fin : aOut P o s (· = out) → (out.apply s o.dst = s ∧ ∃ v, out = .val v) ∨ ∃ i v b, out = .store [] i v b ∧ s.H i v ≠ none := by
    intro h
    obtain ⟨l, i, v, b, rfl, hH⟩ := key h
    obtain ⟨_, hl, _⟩ := hd
    simp only at hl
    subst hl
    exact .inr ⟨i, v, b, rfl, hH⟩
  unfold gOut at h
  split at h
  · exact fin h
  · split at h
    · split at h
      · split at h
        · exact fin h
        · subst h; left; rw [hdst]; exact ⟨rfl, _, rfl⟩
      · subst h; left; rw [hdst]; exact ⟨rfl, _, rfl⟩
      · exact h.elim
    · exact h.elim
theorem frz_put {d : Option Tmp} {v : AV} : SameFrz s (s.put d v) := SameFrz.of (put_H s d v)
theorem frz_set {h v : Nat} {b : Blk} (ho : Ow (s.H h v)) (hb : b.ow) : SameFrz s (s.set h v b) := by
  intro i u xs _
  simp only [AS.set]
  by_cases e : i = h ∧ u = v
  · obtain ⟨rfl, rfl⟩ := e
    simp only [and_self, if_true]
    constructor
    · intro e; cases e; exact hb.elim
    · intro e; rw [e] at ho; exact ho.elim
  · simp only [if_neg e]
theorem frz_kills {l : List (Nat × Nat)} (hl : ∀ p ∈ l, Ow (s.H p.1 p.2)) : SameFrz s (s.kills l) := by
  intro i u xs _
  rw [kills_H]
  by_cases e : (i, u) ∈ l
  · rw [if_pos e]
    constructor
    · intro e; cases e
    · intro e2; have := hl _ e; rw [e2] at this; exact this.elim
  · rw [if_neg e]
theorem out_frz {ops : Array Oper} {out : Out} (h : gOut P ops o s out) (hd : dynOk o out) : SameFrz s (out.apply s o.dst) := by
  cases hw : isW o with
  | false => exact (agree_quiet (hd.1 hw) _).frz
  | true =>
    have key : aOut P o s (· = out) → SameFrz s (out.apply s o.dst) := by
      intro h
      unfold isW at hw
      split at hw
      · rename_i t p x hop
        unfold aOut at h
        rw [hop] at h
        obtain ⟨_, h⟩ := h
        split at h
        · rename_i ti h' v off cs _ _ _
          split at h
          · rename_i cells hH
            rw [← h.2]
            exact frz_set (s := s) (by rw [hH]; trivial) trivial
          · exact h.elim
        · rename_i ti h' v sz i j cs _ _ _
          split at h
          · rename_i E sz' xs ys hH _
            have h2 := h.2
            subst h2
            have hl := hd.2.1
            simp only at hl
            simp only [Out.apply]
            rw [hl]
            exact frz_set (s := s) (by rw [hH]; trivial) trivial
          · exact h.elim
        · exact h.elim
      · rename_i args ts hop
        unfold aOut at h
        rw [hop] at h
        obtain ⟨x, y, t, rfl, rfl, h⟩ := h
        split at h
        · rename_i ti px py _ _ _
          split at h
          · split at h
            · rename_i te z _ _
              split at h
              · rename_i xs l ys hdx _
                have h2 := h.2.2.2.2.2
                subst h2
                have hl : ∀ p ∈ l, Ow (s.H p.1 p.2) := by
                  unfold AS.dst at hdx
                  split at hdx
                  · cases hdx; simp
                  · split at hdx
                    · rename_i hH
                      split at hdx
                      · cases hdx; simp [hH, Ow, Blk.ow]
                      · cases hdx
                    · cases hdx
                  · cases hdx
                simp only [Out.apply]
                intro i u ws hu
                rw [put_H]
                simp only [AS.new, kills_N]
                rw [if_neg (by rintro ⟨rfl, rfl⟩; omega)]
                exact frz_kills hl i u ws hu
              · exact h.elim
            · exact h.elim
          · exact h.elim
        · exact h.elim
      · rename_i t m ix x hop
        unfold aOut at h
        rw [hop] at h
        obtain ⟨out', hx, rfl⟩ := h
        unfold xOut at hx
        rw [hop] at hx
        obtain ⟨_, hx⟩ := hx
        split at hx
        · split at hx
          · rename_i kt E agg ks vs ys hsh hH hpk
            split at hx
            · obtain ⟨_, rfl⟩ := hx
              have hl := hd.2.1
              simp only at hl
              simp only [Out.apply]
              rw [hl]
              exact frz_set (s := s) (by rw [hH]; trivial) trivial
            · exact hx.elim
          · exact hx.elim
        · exact hx.elim
      · cases hw
    unfold gOut at h
    split at h
    · exact key h
    · split at h
      · split at h
        · split at h
          · exact key h
          · subst h; exact frz_put
        · subst h; exact frz_put
        · exact h.elim
      · exact h.elim
theorem swap {ops : Array Oper} {x y : Oper} (hr : Real B nt w0 s) (hi : indep ops x y = true) (hst : ∀ o : Oper, (o = x ∨ o = y) → isStore o = true → o.dst = none) {ox oy : Out} (h1 : gOut P ops x s ox) (q1 : dynOk x ox) (h2 : gOut P ops y (ox.apply s x.dst) oy) (q2 : dynOk y oy) :
    gOut P ops y s oy ∧ gOut P ops x (oy.apply s y.dst) ox ∧ ox.apply (oy.apply s y.dst) x.dst = oy.apply (ox.apply s x.dst) y.dst := by
  obtain ⟨a, w, gv, hs, _⟩ := hr
  unfold indep at hi
  simp only [Bool.and_eq_true] at hi
  obtain ⟨⟨hix, hiy⟩, hi⟩ := hi
  have lx : ∀ t ∈ looks ops y, x.dst ≠ some t := by
    intro t ht e
    rw [e] at hix
    simp only [Bool.and_eq_true, Bool.not_eq_true', List.contains_eq_mem, decide_eq_false_iff_not] at hix
    exact hix.1 ht
  have ly : ∀ t ∈ looks ops x, y.dst ≠ some t := by
    intro t ht e
    rw [e] at hiy
    simp only [Bool.and_eq_true, Bool.not_eq_true', List.contains_eq_mem, decide_eq_false_iff_not] at hiy
    exact hiy.1 ht
  have hne : ∀ d e, x.dst = some d → y.dst = some e → d ≠ e := by
    intro d e hd he hde
    rw [hd] at hix
    simp only [Bool.and_eq_true, bne_iff_ne, ne_eq] at hix
    exact hix.2 (by rw [he, hde])
  have evx : ∀ (out : Out), SameFrz s (out.apply s x.dst) → ∀ z ∈ y.op.operands.toList, (out.apply s x.dst).ev z = s.ev z := fun out hf z hz => ev_same hs hf (fun t e => apply_t out s x.dst t (lx t (mem_looks (e ▸ hz))))
  have evy : ∀ (out : Out), SameFrz s (out.apply s y.dst) → ∀ z ∈ x.op.operands.toList, (out.apply s y.dst).ev z = s.ev z := fun out hf z hz => ev_same hs hf (fun t e => apply_t out s y.dst t (ly t (mem_looks (e ▸ hz))))
  have fzx := out_frz h1 q1
  have fzv : ∀ (d : Option Tmp) (v : AV), SameFrz s ((Out.val v).apply s d) := fun d v => frz_put
  simp only [Bool.or_eq_true, Bool.and_eq_true, Bool.not_eq_true'] at hi
  rcases hi with (((⟨⟨⟨nx, ny⟩, dx⟩, dy⟩ | ⟨⟨wx, my⟩, dy⟩) | ⟨⟨mx, wy⟩, dx⟩) | ⟨⟨sx, fy⟩, dy⟩) | ⟨⟨fx, sy⟩, dx⟩
  · -- both quiet
    obtain ⟨d, hd⟩ := Option.isSome_iff_exists.1 dx
    obtain ⟨e, he⟩ := Option.isSome_iff_exists.1 dy
    have hde := hne d e hd he
    have qx := q1.1 nx
    have qy := q2.1 ny
    have homex := gOut_home h1
    have homey := gOut_home h2
    have fx : ∀ k, k ≤ 900 → ox.f (hnd y.dst + k) = none := by
      intro k hk
      rcases Option.eq_none_or_eq_some (ox.f (hnd y.dst + k)) with h | ⟨b, h⟩
      · exact h
      · obtain ⟨k', hk', he'⟩ := f_home homex qx (i := hnd y.dst + k) (by rw [h]; simp)
        rw [hd, he] at he'
        exact absurd he'.symm (hnd_ne hde hk' hk)
    have fy : ∀ k, k ≤ 900 → oy.f (hnd x.dst + k) = none := by
      intro k hk
      rcases Option.eq_none_or_eq_some (oy.f (hnd x.dst + k)) with h | ⟨b, h⟩
      · exact h
      · obtain ⟨k', hk', he'⟩ := f_home homey qy (i := hnd x.dst + k) (by rw [h]; simp)
        rw [hd, he] at he'
        exact absurd he' (hnd_ne hde hk hk')
    have e1 := (gOut_of (P := P) (o := y) (s := s) (ops := ops) x.dst lx (out0 := ox) (out := oy) (aOut_congr hs (agree_quiet qx _) (evx ox fzx) (fun k hk => N_quiet qx _ _ (fx k hk)) oy q2.2.2)).1 h2
    refine ⟨e1, (gOut_of (P := P) (o := x) (s := s) (ops := ops) y.dst ly (out0 := oy) (out := ox) (aOut_congr hs (agree_quiet qy _) (evy oy (agree_quiet qy _).frz) (fun k hk => N_quiet qy _ _ (fy k hk)) ox q1.2.2)).2 h1, ?_⟩
    have hdis : ∀ i, oy.f i = none ∨ ox.f i = none := by
      intro i
      rcases Option.eq_none_or_eq_some (oy.f i) with h | ⟨b, h⟩
      · exact .inl h
      · right
        obtain ⟨k, hk, rfl⟩ := f_home homey qy (i := i) (by rw [h]; simp)
        exact fx k hk
    rw [apply_eq qx, apply_eq qy, apply_eq qy, apply_eq qx, put_newB, put_newB, newB_newB s oy.f ox.f hdis, hd, he]
    exact put_put _ e d _ _ (fun h => hde h.symm)
  · -- x writes, y looks at slots alone
    obtain ⟨e, he⟩ := Option.isSome_iff_exists.1 dy
    have c1 := aOut_memless (P := P) (s := s) (s' := ox.apply s x.dst) my (evx ox fzx) oy
    have e1 := (gOut_of (P := P) (o := y) (s := s) (ops := ops) x.dst lx (out0 := ox) (out := oy) c1.1).1 h2
    obtain ⟨v, rfl⟩ := gOut_val e1 c1.2
    refine ⟨e1, (gOut_of (P := P) (o := x) (s := s) (ops := ops) y.dst ly (out0 := .val v) (out := ox) (aOut_congr hs (fun h u _ => by simp only [Out.apply, put_H]) (evy _ (fzv _ _)) (fun k hk => by simp only [Out.apply, put_N]) ox q1.2.2)).2 h1, ?_⟩
    simp only [Out.apply] at *
    rw [he]
    exact put_apply s e v ox x.dst (fun h => hne e e h he rfl)
  · -- x looks at slots alone, y writes
    obtain ⟨d, hd⟩ := Option.isSome_iff_exists.1 dx
    have c0 := aOut_memless (P := P) (s := s) (s' := s) mx (fun _ _ => rfl) ox
    obtain ⟨v, rfl⟩ := gOut_val h1 c0.2
    have e1 := (gOut_of (P := P) (o := y) (s := s) (ops := ops) x.dst lx (out0 := .val v) (out := oy) (aOut_congr hs (fun h u _ => by simp only [Out.apply, put_H]) (evx _ (fzv _ _)) (fun k hk => by simp only [Out.apply, put_N]) oy q2.2.2)).1 h2
    have c1 := aOut_memless (P := P) (s := s) (s' := oy.apply s y.dst) mx (evy oy (out_frz e1 q2)) (.val v)
    refine ⟨e1, (gOut_of (P := P) (o := x) (s := s) (ops := ops) y.dst ly (out0 := oy) (out := .val v) c1.1).2 h1, ?_⟩
    simp only [Out.apply] at *
    rw [hd]
    exact (put_apply s d v oy y.dst (fun h => hne d d hd h rfl)).symm
  · -- x stores, y computes a field's address
    obtain ⟨e, he⟩ := Option.isSome_iff_exists.1 dy
    have hxn := hst x (.inl rfl) sx
    have hHx : ∀ h v, (ox.apply s x.dst).H h v = none ↔ s.H h v = none := by
      rcases store_out sx h1 q1 hxn with ⟨hh, _⟩ | ⟨i, v, b, rfl, hl⟩
      · intro h v; rw [hh]
      · intro h u
        simp only [Out.apply, AS.frzs, List.foldl_nil, AS.set]
        by_cases hc : h = i ∧ u = v
        · obtain ⟨rfl, rfl⟩ := hc; simp [hl]
        · simp [hc]
    have c1 := aOut_fieldAddr (P := P) (s := s) (s' := ox.apply s x.dst) fy (evx ox fzx) hHx oy
    have e1 := (gOut_of (P := P) (o := y) (s := s) (ops := ops) x.dst lx (out0 := ox) (out := oy) c1.1).1 h2
    obtain ⟨v, rfl⟩ := gOut_val e1 c1.2
    refine ⟨e1, (gOut_of (P := P) (o := x) (s := s) (ops := ops) y.dst ly (out0 := .val v) (out := ox) (aOut_congr hs (fun h u _ => by simp only [Out.apply, put_H]) (evy _ (fzv _ _)) (fun k hk => by simp only [Out.apply, put_N]) ox q1.2.2)).2 h1, ?_⟩
    simp only [Out.apply] at *
    rw [he]
    exact put_apply s e v ox x.dst (fun h => hne e e h he rfl)
  · obtain ⟨d, hd⟩ := Option.isSome_iff_exists.1 dx
    have hyn := hst y (.inr rfl) sy
    have c0 := aOut_fieldAddr (P := P) (s := s) (s' := s) fx (fun _ _ => rfl) (fun _ _ => Iff.rfl) ox
    obtain ⟨v, rfl⟩ := gOut_val h1 c0.2
    have e1 := (gOut_of (P := P) (o := y) (s := s) (ops := ops) x.dst lx (out0 := .val v) (out := oy) (aOut_congr hs (fun h u _ => by simp only [Out.apply, put_H]) (evx _ (fzv _ _)) (fun k hk => by simp only [Out.apply, put_N]) oy q2.2.2)).1 h2
    have hHy : ∀ h v, (oy.apply s y.dst).H h v = none ↔ s.H h v = none := by
      rcases store_out sy e1 q2 hyn with ⟨hh, _⟩ | ⟨i, v, b, rfl, hl⟩
      · intro h v; rw [hh]
      · intro h u
        simp only [Out.apply, AS.frzs, List.foldl_nil, AS.set]
        by_cases hc : h = i ∧ u = v
        · obtain ⟨rfl, rfl⟩ := hc; simp [hl]
        · simp [hc]
    have c1 := aOut_fieldAddr (P := P) (s := s) (s' := oy.apply s y.dst) fx (evy oy (out_frz e1 q2)) hHy (.val v)
    refine ⟨e1, (gOut_of (P := P) (o := x) (s := s) (ops := ops) y.dst ly (out0 := oy) (out := .val v) c1.1).2 h1, ?_⟩
    simp only [Out.apply] at *
    rw [hd]
    exact (put_apply s d v oy y.dst (fun h => hne d d hd h rfl)).symm
end
end Go.AV
end
