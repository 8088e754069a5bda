/- Texts AvE2. -/
import Derived.Test.YtlgnflbekdldnaaGreatDoorAvK25
set_option linter.unusedVariables false
set_option linter.unusedSimpArgs false
set_option linter.unusedSectionVars false
noncomputable section
namespace Go.AV
open Go.RowKit
structure ES where
  T : List (Nat × AV)
  HH : List ((Nat × Nat) × Option Blk)
  NN : List (Nat × Nat)
  N0 : Nat
def lkT : List (Nat × AV) → Nat → AV
  | [], _ => .undef
  | (j, v) :: r, i => bif Nat.beq i j then v else lkT r i
def lkH : List ((Nat × Nat) × Option Blk) → Nat → Nat → Option Blk
  | [], _, _ => none
  | ((h, u), b) :: r, i, v => bif (Nat.beq i h && Nat.beq v u) then b else lkH r i v
def lkN (d : Nat) : List (Nat × Nat) → Nat → Nat
  | [], _ => d
  | (j, n) :: r, i => bif Nat.beq i j then n else lkN d r i
def ES.den (s : ES) : AS := ⟨lkT s.T, lkH s.HH, lkN s.N0 s.NN⟩
theorem nbeq (a b : Nat) : Nat.beq a b = decide (a = b) := by
  by_cases h : a = b
  · subst h; simp
  · simp only [h, decide_false]; exact Bool.eq_false_iff.2 (fun e => h (Nat.eq_of_beq_eq_true e))
def ES.put (s : ES) (d : Option Tmp) (v : AV) : ES :=
  match d with
  | some d => { s with T := (d, v) :: s.T }
  | none => s
def ES.new (s : ES) (h : Nat) (b : Blk) : ES := { s with HH := ((h, lkN s.N0 s.NN h), some b) :: s.HH, NN := (h, lkN s.N0 s.NN h + 1) :: s.NN }
def ES.setO (s : ES) (h v : Nat) (b : Option Blk) : ES := { s with HH := ((h, v), b) :: s.HH }
def ES.set (s : ES) (h v : Nat) (b : Blk) : ES := s.setO h v (some b)
def ES.kill (s : ES) (h v : Nat) : ES := s.setO h v none
def ES.frz (s : ES) (h v : Nat) : ES := s.setO h v (frzB (lkH s.HH h v))
def ES.frzs (s : ES) : List (Nat × Nat) → ES
  | [] => s
  | p :: l => (s.frz p.1 p.2).frzs l
def ES.kills (s : ES) : List (Nat × Nat) → ES
  | [] => s
  | p :: l => (s.kill p.1 p.2).kills l
def ES.take (s : ES) (base : Nat) : List R → ES
  | [] => s
  | .c _ :: rs => s.take (base + 1) rs
  | .own E sz xs :: rs => (s.new base (.arr E sz xs)).take (base + 1) rs
def ES.setB (s : ES) : List (Nat × Nat) → List (List A) → ES
  | (h, v) :: ms, c :: cs => (s.setB ms cs).set h v (.box c)
  | _, _ => s
def ES.apply (s : ES) (d : Option Tmp) : Out → ES
  | .val v => s.put d v
  | .make h b v => (s.new h b).put d v
  | .built l h b v => ((s.kills l).new h b).put d v
  | .packed l h b v => ((s.frzs l).new h b).put d v
  | .call l base rs v => ((s.frzs l).take base rs).put d v
  | .store l h v b => (s.frzs l).set h v b
theorem den_put (s : ES) (d : Option Tmp) (v : AV) : (s.put d v).den = s.den.put d v := by
  cases d with
  | none => rfl
  | some d =>
    simp only [ES.put, ES.den, AS.put, AS.mk.injEq, and_true]
    funext i
    simp only [lkT, nbeq]
    by_cases h : i = d <;> simp [h]
theorem den_new (s : ES) (h : Nat) (b : Blk) : (s.new h b).den = s.den.new h b := by
  simp only [ES.new, ES.den, AS.new, AS.mk.injEq, true_and]
  refine ⟨?_, ?_⟩
  · funext i v
    simp only [lkH, nbeq]
    by_cases h1 : i = h <;> by_cases h2 : v = lkN s.N0 s.NN h <;> simp [h1, h2]
  · funext i
    simp only [lkN, nbeq]
    by_cases h1 : i = h <;> simp [h1]
theorem den_setO (s : ES) (h v : Nat) (b : Option Blk) : (s.setO h v b).den = { s.den with H := fun i u => if i = h ∧ u = v then b else s.den.H i u } := by
  simp only [ES.setO, ES.den, AS.mk.injEq, true_and, and_true]
  funext i u
  simp only [lkH, nbeq]
  by_cases h1 : i = h <;> by_cases h2 : u = v <;> simp [h1, h2]
theorem den_set (s : ES) (h v : Nat) (b : Blk) : (s.set h v b).den = s.den.set h v b := den_setO s h v _
theorem den_kill (s : ES) (h v : Nat) : (s.kill h v).den = s.den.kill h v := den_setO s h v _
theorem den_frz (s : ES) (h v : Nat) : (s.frz h v).den = s.den.frz h v := by
  rw [ES.frz, den_setO]
  simp only [AS.frz, AS.mk.injEq, true_and, and_true]
  funext i u
  by_cases h1 : i = h ∧ u = v
  · obtain ⟨rfl, rfl⟩ := h1; simp only [and_self, if_true]; rfl
  · simp only [h1, if_false]
theorem den_frzs (l : List (Nat × Nat)) : ∀ s : ES, (s.frzs l).den = s.den.frzs l := by
  induction l with
  | nil => intro s; rfl
  | cons p l ih => intro s; rw [ES.frzs, ih, den_frz]; rfl
theorem den_kills (l : List (Nat × Nat)) : ∀ s : ES, (s.kills l).den = s.den.kills l := by
  induction l with
  | nil => intro s; rfl
  | cons p l ih => intro s; rw [ES.kills, ih, den_kill]; rfl
theorem den_take (rs : List R) : ∀ (s : ES) (base : Nat), (s.take base rs).den = s.den.take base rs := by
  induction rs with
  | nil => intro s base; rfl
  | cons r rs ih =>
    intro s base
    cases r with
    | c x => exact ih s (base + 1)
    | own E sz xs => rw [ES.take, ih, den_new]; rfl
theorem den_setB : ∀ (ms : List (Nat × Nat)) (cs : List (List A)) (s : ES), (s.setB ms cs).den = s.den.setB ms cs := by
  intro ms
  induction ms with
  | nil => intro cs s; cases cs <;> simp [ES.setB, AS.setB, findBox]
  | cons p ms ih =>
    intro cs s
    obtain ⟨h, v⟩ := p
    cases cs with
    | nil => simp [ES.setB, AS.setB, findBox]
    | cons c cs =>
      rw [ES.setB, den_set, ih]
      simp only [AS.setB, AS.set, AS.mk.injEq, true_and, and_true]
      funext i u
      simp only [findBox]
      by_cases h1 : i = h ∧ u = v
      · simp only [h1, and_self, if_true]
      · simp only [h1, if_false]
theorem den_apply (s : ES) (d : Option Tmp) (out : Out) : (s.apply d out).den = out.apply s.den d := by
  cases out <;> simp only [ES.apply, Out.apply, den_put, den_new, den_kills, den_frzs, den_take, den_set]
def bo {α : Type} (b : Bool) (x : Option α) : Option α := bif b then x else none
theorem bo_some {α : Type} {b : Bool} {x : Option α} {y : α} (h : bo b x = some y) : b = true ∧ x = some y := by
  cases b
  · cases h
  · exact ⟨rfl, h⟩
def AS.ptrB (s : AS) (k : Nat) : A → Bool
  | .c (.ptr cells) => Nat.ble k cells.length
  | .ptr h v _ => (s.H h v).isSome
  | .eptr h v _ _ _ => (s.H h v).isSome
  | _ => false
theorem ptrB_ok {s : AS} {k : Nat} {x : A} (h : s.ptrB k x = true) : s.ptrOk k x := by
  unfold AS.ptrB at h
  unfold AS.ptrOk
  split at h
  · exact Nat.le_of_ble_eq_true h
  · intro e; simp [e] at h
  · intro e; simp [e] at h
  · cases h
def xop (P : Program) (o : Oper) (s : AS) : Option Out :=
  match o.op with
  | .move x => some (.val (s.ev x))
  | .assign x => some (.val (s.ev x))
  | .pick c x y => match s.ev c with
    | .one (.c (.bool true)) => some (.val (s.ev x))
    | .one (.c (.bool false)) => some (.val (s.ev y))
    | _ => none
  | .extract x i => match s.ev x with
    | .tup xs => bo (Nat.blt i xs.length) (some (.val (xs.getD i .undef)))
    | _ => none
  | .makeFunc (.func f) first caps => match first.toList, ones (caps.toList.map s.ev) with
    | [], some cs => some (.val (.one (.fn f cs)))
    | _, _ => none
  | .load t p => match s.ev p with
    | .one (.c (.ptr cells)) => match tiOf P t with
      | some ti => bo (Nat.ble ti.size cells.length && (ti.agg || Nat.beq ti.size 1)) (some (.val (mkAV ti.agg ((cells.take ti.size).map .c))))
      | none => none
    | .one (.ptr h v off) => match tiOf P t, s.H h v with
      | some ti, some (.box cells) => bo (Nat.ble (off + ti.size) cells.length && (ti.agg || Nat.beq ti.size 1)) (some (.val (mkAV ti.agg ((cells.drop off).take ti.size))))
      | _, _ => none
    | _ => none
  | .store t p x => match o.dst, s.ev p with
    | none, .one (.ptr h v off) => match tiOf P t, s.cellsO (s.ev x), s.H h v with
      | some ti, some cs, some (.box cells) => bo (Nat.beq cs.length ti.size && Nat.ble (off + cs.length) cells.length) (some (.store [] h v (.box (spl cells off cs))))
      | _, _, _ => none
    | _, _ => none
  | .fieldAddr t p f => match tiOf P t, s.ev p with
    | some ti, .one pa => match ti.sh, ti.flds[f]? with
      | .struct, some (fo, fs, _) => bo (!Nat.beq fs 0 && s.ptrB fo pa) (some (.val (.one (pa.adv fo))))
      | _, _ => none
    | _, _ => none
  | .field t p f => match tiOf P t, s.ev p with
    | some ti, .agg asx => match ti.sh, ti.flds[f]? with
      | .struct, some (fo, fs, ft) => match tiOf P ft with
        | some fi => bo ((fi.agg || Nat.beq fi.size 1) && Nat.beq fi.size fs && Nat.ble (fo + fs) asx.length) (some (.val (mkAV fi.agg ((asx.drop fo).take fs))))
        | none => none
      | _, _ => none
    | _, _ => none
  | .indexAddr t x ix => match tiOf P t with
    | some ti => match ti.sh with
      | .array n e => match tiOf P e, s.ev x, s.ev ix with
        | some te, .one pa, .one (.c (.int _ i)) => bo (decide (0 ≤ i) && decide (i < n) && s.ptrB (i.toNat * te.size) pa) (some (.val (.one (pa.adv (i.toNat * te.size)))))
        | _, _, _ => none
      | _ => none
    | none => none
  | .binOp op t x y _ => match s.ev x, s.ev y with
    | .one (.c (.bool b)), .one (.c (.bool c)) => match tiOf P t, binB op b c with
      | some ti, some z => match ti.sh with
        | .bool => some (.val (.one (.c (.bool z))))
        | _ => none
      | _, _ => none
    | .one (.c (.int k m)), .one (.c (.int k' n)) => match op with
      | .shl => none
      | .shr => none
      | .quo => none
      | .rem => none
      | op => (binC op (.int k m) (.int k' n)).map fun z => .val (.one (.c z))
    | .one (.c (.str m)), .one (.c (.str n)) => match op with
      | .add => none
      | op => (binC op (.str m) (.str n)).map fun z => .val (.one (.c z))
    | .one .nil, .one .nil => match y, tiOf P t with
      | .const (.slice none 0 0), some ti => match ti.sh, op with
        | .slice _, .eql => some (.val (.one (.c (.bool true))))
        | .slice _, .neq => some (.val (.one (.c (.bool false))))
        | _, _ => none
      | _, _ => none
    | .agg xs, .agg ys => (eqAg P op t xs ys).map fun z => .val (.one (.c (.bool z)))
    | _, _ => none
  | .unOp op t x => match op, s.ev x with
    | .not, .one (.c (.bool b)) => some (.val (.one (.c (.bool (!b)))))
    | .neg, .one (.c (.int k n)) => some (.val (.one (.c (.int k (k.wrap (0 - n))))))
    | _, _ => none
  | .convert t u x => match s.ev x with
    | .one (.c (.sl _)) => none
    | v => (convAV P t u v).map .val
  | .nilCheck x => match s.ev x with
    | .one pa => bo (s.ptrB 0 pa) (some (.val (.one pa)))
    | _ => none
  | .makeMap t r => match r, tiOf P t with
    | none, some ti => match ti.sh with
      | .map _ e => match tiOf P e with
        | some te => some (.make (hnd o.dst) (.map te.agg [] []) (.one (.own (hnd o.dst) (s.N (hnd o.dst)))))
        | none => none
      | _ => none
    | _, _ => none
  | .alloc t => match zeroOf P t with
    | some z => some (.make (hnd o.dst) (.box (z.cells.toList.map constA)) (.one (.ptr (hnd o.dst) (s.N (hnd o.dst)) 0)))
    | none => none
  | .box _ x => match s.cellsO (s.ev x) with
    | some cs => some (.make (hnd o.dst) (.box cs) (.one (.ptr (hnd o.dst) (s.N (hnd o.dst)) 0)))
    | none => none
  | .build t parts => match tiOf P t, zeroOf P t with
    | some ti, some z => match fldsOf P ti with
      | some fl => bo (fl.all fun x => (P.info? x.2.2).isSome) (match s.fill fl parts.toList (z.cells.toList.map constA) with
        | some out => some (.val (.agg out))
        | none => none)
      | none => none
    | _, _ => none
  | .call ⟨.builtin .len, args, ts⟩ => match args.toList, ts.toList with
    | [x], [t] => match tiOf P t, s.ev x with
      | some ti, .one (.c (.str z)) => match ti.sh with
        | .string => some (.val (.one (.c (.int .i64 z.size))))
        | _ => none
      | some ti, .one .nil => match ti.sh with
        | .slice _ => some (.val (.one (.c (.int .i64 (0 : Nat)))))
        | _ => none
      | _, _ => none
    | _, _ => none
  | .call ⟨.builtin .min, args, _⟩ => match args.toList with
    | [x, y] => match s.ev x, s.ev y with
      | .one (.c (.int k m)), .one (.c (.int k' n)) => if k = k' then some (.val (.one (.c (.int k (if n < m then n else m))))) else none
      | _, _ => none
    | _ => none
  | .call ⟨.builtin .max, args, _⟩ => match args.toList with
    | [x, y] => match s.ev x, s.ev y with
      | .one (.c (.int k m)), .one (.c (.int k' n)) => if k = k' then some (.val (.one (.c (.int k (if m < n then n else m))))) else none
      | _, _ => none
    | _ => none
  | _ => none
theorem arr1 {α : Type} {a : Array α} {x : α} (h : a.toList = [x]) : a = #[x] := by
  cases a; simp_all
theorem arr2 {α : Type} {a : Array α} {x y : α} (h : a.toList = [x, y]) : a = #[x, y] := by
  cases a; simp_all
theorem arr0 {α : Type} {a : Array α} (h : a.toList = []) : a = #[] := by
  cases a; simp_all
theorem xop_ok {P : Program} {o : Oper} {s : AS} {out : Out} (h : xop P o s = some out) {K : Out → Prop} (hk : K out) : aOut P o s K := by
  unfold xop at h
  unfold aOut
  split at h
  · rename_i x e; simp only [e]; cases h; exact hk
  · rename_i x e; simp only [e]; cases h; exact hk
  · rename_i c x y e; simp only [e]
    split at h
    · rename_i e2; simp only [e2]; cases h; exact hk
    · rename_i e2; simp only [e2]; cases h; exact hk
    · cases h
  · rename_i x i e; simp only [e]
    split at h
    · rename_i xs e2; simp only [e2]
      obtain ⟨h1, h2⟩ := bo_some h
      cases h2
      exact ⟨Nat.le_of_ble_eq_true h1, hk⟩
    · cases h
  · rename_i f first caps e; simp only [e]
    split at h
    · rename_i cs e1 e2; simp only [e2]; cases h; exact ⟨arr0 e1, hk⟩
    · cases h
  · rename_i t p e; simp only [e]
    split at h
    · rename_i cells e2
      split at h
      · rename_i ti e3
        simp only [e2, e3]
        obtain ⟨h1, h2⟩ := bo_some h
        cases h2
        simp only [Bool.and_eq_true, Bool.or_eq_true] at h1
        exact ⟨Nat.le_of_ble_eq_true h1.1, fun ha => by rcases h1.2 with h | h; (rw [ha] at h; cases h); exact Nat.eq_of_beq_eq_true h, hk⟩
      · cases h
    · rename_i i v off e2
      split at h
      · rename_i ti cells e3 e4
        simp only [e2, e3, e4]
        obtain ⟨h1, h2⟩ := bo_some h
        cases h2
        simp only [Bool.and_eq_true, Bool.or_eq_true] at h1
        exact ⟨Nat.le_of_ble_eq_true h1.1, fun ha => by rcases h1.2 with h | h; (rw [ha] at h; cases h); exact Nat.eq_of_beq_eq_true h, hk⟩
      · cases h
    · cases h
  · rename_i t p x e; simp only [e]
    split at h
    · rename_i i v off e1 e2
      split at h
      · rename_i ti cs cells e3 e4 e5
        simp only [e2, e3, e4, e5]
        obtain ⟨h1, h2⟩ := bo_some h
        cases h2
        simp only [Bool.and_eq_true] at h1
        exact ⟨e1, ⟨Nat.eq_of_beq_eq_true h1.1, Nat.le_of_ble_eq_true h1.2⟩, hk⟩
      · cases h
    · cases h
  · rename_i t p f e; simp only [e]
    split at h
    · rename_i ti pa e1 e2
      split at h
      · rename_i fo fs ft e3 e4
        simp only [e1, e2, e3, e4]
        obtain ⟨h1, h2⟩ := bo_some h
        cases h2
        simp only [Bool.and_eq_true, Bool.not_eq_true'] at h1
        exact ⟨trivial, fun e => by subst e; simp at h1, ptrB_ok h1.2, hk⟩
      · cases h
    · cases h
  · rename_i t p f e; simp only [e]
    split at h
    · rename_i ti asx e1 e2
      split at h
      · rename_i fo fs ft e3 e4
        split at h
        · rename_i fi e5
          simp only [e1, e2, e3, e4, e5]
          obtain ⟨h1, h2⟩ := bo_some h
          cases h2
          simp only [Bool.and_eq_true, Bool.or_eq_true] at h1
          exact ⟨trivial, fun ha => by rcases h1.1.1 with h | h; (rw [ha] at h; cases h); exact Nat.eq_of_beq_eq_true h, Nat.eq_of_beq_eq_true h1.1.2, Nat.le_of_ble_eq_true h1.2, hk⟩
        · cases h
      · cases h
    · cases h
  · rename_i t x ix e; simp only [e]
    split at h
    · rename_i ti e1
      split at h
      · rename_i n el e2
        split at h
        · rename_i te pa k i e3 e4 e5
          simp only [e1, e2, e3, e4, e5]
          obtain ⟨h1, h2⟩ := bo_some h
          cases h2
          simp only [Bool.and_eq_true, decide_eq_true_eq] at h1
          exact ⟨h1.1.1, h1.1.2, ptrB_ok h1.2, hk⟩
        · cases h
      · cases h
    · cases h
  · rename_i op t x y yt e; simp only [e]
    split at h
    · rename_i b c e1 e2
      split at h
      · rename_i ti z e3 e4
        split at h
        · rename_i e5
          simp only [e1, e2, e3, e4, e5]
          cases h
          exact ⟨trivial, hk⟩
        · cases h
      · cases h
    · rename_i k m k' n e1 e2
      simp only [e1, e2]
      split at h
      · cases h
      · cases h
      · cases h
      · cases h
      · simp only [Option.map_eq_some_iff] at h
        obtain ⟨z, h1, rfl⟩ := h
        simp only [h1]
        exact hk
    · rename_i m n e1 e2
      simp only [e1, e2]
      split at h
      · cases h
      · simp only [Option.map_eq_some_iff] at h
        obtain ⟨z, h1, rfl⟩ := h
        simp only [h1]
        exact hk
    · rename_i e1 e2
      split at h
      · rename_i ti e4
        split at h
        · rename_i el e5
          simp only [e1, e2, e4, nilTest]
          cases h
          exact ⟨trivial, .inl trivial, ⟨el, e5⟩, fun b hb => by subst hb; exact hk⟩
        · rename_i el e5
          simp only [e1, e2, e4, nilTest]
          cases h
          exact ⟨trivial, .inr trivial, ⟨el, e5⟩, fun b hb => by subst hb; exact hk⟩
        · cases h
      · cases h
    · rename_i xs ys e1 e2
      simp only [Option.map_eq_some_iff] at h
      obtain ⟨z, h1, rfl⟩ := h
      simp only [e1, e2, h1]
      exact hk
    · cases h
  · rename_i op t x e; simp only [e]
    split at h
    · rename_i b e2; simp only [e2]; cases h; exact hk
    · rename_i k n e2; simp only [e2]; cases h; exact hk
    · cases h
  · rename_i t u x e; simp only [e]
    split at h
    · cases h
    · rename_i v e2
      simp only [Option.map_eq_some_iff] at h
      obtain ⟨z, h1, rfl⟩ := h
      simp only [h1]
      exact hk
  · rename_i x e; simp only [e]
    split at h
    · rename_i pa e1
      obtain ⟨h1, h2⟩ := bo_some h
      cases h2
      refine ⟨_, ?_, hk⟩
      unfold xOut
      simp only [e, e1]
      exact ⟨ptrB_ok h1, trivial⟩
    · cases h
  · rename_i t r e; simp only [e]
    split at h
    · rename_i ti e1
      split at h
      · rename_i kt el e2
        split at h
        · rename_i te e3
          cases h
          refine ⟨_, ?_, hk⟩
          unfold xOut
          simp only [e, e1, e2, e3]
          exact ⟨trivial, trivial⟩
        · cases h
      · cases h
    · cases h
  · rename_i t e; simp only [e]
    split at h
    · rename_i z e1; simp only [e1]; cases h; exact hk
    · cases h
  · rename_i t x e; simp only [e]
    split at h
    · rename_i z e1; simp only [e1]; cases h; exact hk
    · cases h
  · rename_i t parts e; simp only [e]
    split at h
    · rename_i ti z e1 e2
      split at h
      · rename_i fl e3
        obtain ⟨h1, h2⟩ := bo_some h
        split at h2
        · rename_i out' e4
          simp only [e1, e2, e3, e4]
          cases h2
          exact ⟨fun x hx => List.all_eq_true.1 h1 x hx, hk⟩
        · cases h2
      · cases h
    · cases h
  · rename_i args ts e; simp only [e]
    split at h
    · rename_i x t ea et
      split at h
      · rename_i ti z e1 e2
        split at h
        · rename_i e3
          cases h
          refine ⟨x, t, arr1 ea, arr1 et, ?_⟩
          simp only [e1, e2, e3, AS.len]
          exact ⟨rfl, hk⟩
        · cases h
      · rename_i ti e1 e2
        split at h
        · rename_i el e3
          cases h
          refine ⟨x, t, arr1 ea, arr1 et, ?_⟩
          simp only [e1, e2, e3, AS.len]
          exact ⟨rfl, hk⟩
        · cases h
      · cases h
    · cases h
  · rename_i args ts e; simp only [e]
    split at h
    · rename_i x y ea
      split at h
      · rename_i k m k' n e1 e2
        split at h
        · rename_i e3
          cases h
          refine ⟨x, y, arr2 ea, ?_⟩
          simp only [e1, e2]
          exact ⟨e3, hk⟩
        · cases h
      · cases h
    · cases h
  · rename_i args ts e; simp only [e]
    split at h
    · rename_i x y ea
      split at h
      · rename_i k m k' n e1 e2
        split at h
        · rename_i e3
          cases h
          refine ⟨x, y, arr2 ea, ?_⟩
          simp only [e1, e2]
          exact ⟨e3, hk⟩
        · cases h
      · cases h
    · cases h
  · cases h
end Go.AV
end
