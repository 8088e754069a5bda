/- Texts AvE3. -/
import Derived.Test.YtlgnflbekdldnaaGreatDoorAvK27
set_option linter.unusedVariables false
set_option linter.unusedSimpArgs false
set_option linter.unusedSectionVars false
noncomputable section
namespace Go.AV
open Go.RowKit
structure Enc (α : Type) where
  e : α → List C
  L : List α → List (List C)
  sz : Nat
  hL : ∀ xs, L xs = xs.map e
  hs : ∀ x, (e x).length = sz
structure Mir (P : Program) (f : FuncId) (X Y : Type) where
  fs : List GForm
  ga : X → List GArg
  caps : X → List C
  res : Y → List RV
  outs : Y → List (List R)
  R : X → Y → Prop
  ok : ∀ x y, R x y → SpecG P f (ga x ++ (caps x).map fun c => .val (.one (.c c))) (res y) (outs y)
  flat : Bool
  hflat : flat = true → ∀ y, ∀ r ∈ (res y).flatMap RV.cells ++ (outs y).flatten, r.flat
def mputT {α : Type} (ks : List ByteArray) (vs : List α) (k : ByteArray) (x : α) : List α :=
  match mfind k ks with
  | some i => vs.set i x
  | none => vs ++ [x]
def mgetT {α : Type} (ks : List ByteArray) (vs : List α) (z : α) (k : ByteArray) : α :=
  match mfind k ks with
  | some i => vs.getD i z
  | none => z
structure Sp (P : Program) where
  B : Type
  chk : Oper → ES → Prop
  tr : Prop
  htr : tr
  poss : List B
  post : Oper → ES → B → ES
  ok : ∀ (Bk : Nat → Prop) (nt : Nat) (w0 : Base) (_ : InvC P Bk w0) (o : Oper) (es : ES) (Kf : AS → Prop), (∀ x, o.dst = some x → x < nt) → chk o es → (∀ b ∈ poss, Kf (post o es b).den) → OpOK Bk P nt w0 o es.den Kf
inductive Cert (P : Program) (J Y : Type) : Type 1
  | ret (y : Y)
  | jump (j : J) (ren : List (Nat × Nat))
  | ite (t : Nat) (b : Bool) (c d : Cert P J Y)
  | elem {α : Type} (E : Enc α) (xs : List α) (i : Int) (k : α → Cert P J Y)
  | idx {α : Type} (E : Enc α) (xs : List α) (i : Int) (k : Cert P J Y)
  | eget {α : Type} (E : Enc α) (xs : List α) (n : Nat) (k : α → Cert P J Y)
  | eset {α : Type} (E : Enc α) (xs : List α) (n : Nat) (y : α → α) (k : Cert P J Y)
  | byte (z : ByteArray) (i : Int) (k : Cert P J Y)
  | len {α : Type} (E : Enc α) (xs : List α) (k : Cert P J Y)
  | app {α : Type} (E : Enc α) (by_ : Nat) (xs ys : List α) (k : Cert P J Y)
  | cut {α : Type} (E : Enc α) (xs : List α) (l h : Int) (k : Cert P J Y)
  | cat (a b : ByteArray) (k : Cert P J Y)
  | bld {α : Type} (E : Enc α) (xs : List α) (k : Cert P J Y)
  | mks {α : Type} (E : Enc α) (xs : List α) (k : Cert P J Y)
  | unby (l : List Int) (k : Cert P J Y)
  | shf (b : Int) (k : Cert P J Y)
  | dvd (b : Int) (k : Cert P J Y)
  | mput {α : Type} (E : Enc α) (ks : List ByteArray) (vs : List α) (key : ByteArray) (x : α) (k : Cert P J Y)
  | mget {α : Type} (E : Enc α) (ks : List ByteArray) (vs : List α) (z : α) (key : ByteArray) (k : Cert P J Y)
  | nilt {α : Type} (E : Enc α) (xs : List α) (k : Bool → Cert P J Y)
  | call {f : FuncId} {A B : Type} (M : Mir P f A B) (x : A) (k : B → Cert P J Y)
  | adoptT (t E sz : Nat) (k : Cert P J Y)
  | adoptB (h v i E sz : Nat) (k : Cert P J Y)
  | frz (h v : Nat) (k : Cert P J Y)
  | frzo (d h v : Nat) (k : Cert P J Y)
  | sp (S : Sp P) (k : S.B → Cert P J Y)
def Runs {P : Program} {J Y : Type} : Cert P J Y → (J ⊕ Y → Prop) → Prop
  | .ret y, K => K (.inr y)
  | .jump j _, K => K (.inl j)
  | .ite _ b c d, K => if b = true then Runs c K else Runs d K
  | .elem _ xs i k, K => ∃ (_ : 0 ≤ i) (h : i.toNat < xs.length), Runs (k (xs[i.toNat])) K
  | .idx _ xs i k, K => 0 ≤ i ∧ i.toNat < xs.length ∧ Runs k K
  | .eget _ xs n k, K => ∃ h : n < xs.length, Runs (k xs[n]) K
  | .eset _ xs n _ k, K => n < xs.length ∧ Runs k K
  | .byte z i k, K => 0 ≤ i ∧ i < z.size ∧ Runs k K
  | .len _ _ k, K => Runs k K
  | .app _ b xs ys k, K => (xs.length + ys.length) * b ≤ 140737488355328 ∧ Runs k K
  | .cut _ xs l h k, K => (0 ≤ l ∧ l ≤ h ∧ h ≤ xs.length) ∧ Runs k K
  | .cat a b k, K => a.size + b.size ≤ maxLen ∧ Runs k K
  | .bld _ _ k, K => Runs k K
  | .mks _ xs k, K => xs.length ≤ maxLen ∧ Runs k K
  | .unby _ k, K => Runs k K
  | .shf b k, K => 0 ≤ b ∧ Runs k K
  | .dvd b k, K => b ≠ 0 ∧ Runs k K
  | .mput _ _ _ _ _ k, K => Runs k K
  | .mget _ ks vs _ _ k, K => vs.length = ks.length ∧ Runs k K
  | .nilt _ xs k, K => ∀ b, (xs ≠ [] → b = false) → Runs (k b) K
  | .call M x k, K => ∃ y, M.R x y ∧ Runs (k y) K
  | .adoptT _ _ _ k, K => Runs k K
  | .adoptB _ _ _ _ _ k, K => Runs k K
  | .frz _ _ k, K => Runs k K
  | .frzo _ _ _ k, K => Runs k K
  | .sp S k, K => ∀ b ∈ S.poss, Runs (k b) K
structure Snap where
  T : List (Nat × AV)
  Bs : List ((Nat × Nat) × Blk)
def rnm : List (Nat × Nat) → List (Nat × Nat) → Nat → Nat → Option (Nat × Nat)
  | p :: ps, q :: qs, h, v => bif (Nat.beq h q.1 && Nat.beq v q.2) then some p else rnm ps qs h v
  | _, _, _, _ => none
mutual
/-- A cell under the new names: 'ns' the new names, 'rs' the old ones. -/
def rnA (s : AS) (ns rs : List (Nat × Nat)) : A → Option A
  | .c x => some (.c x)
  | .nil => some .nil
  | .own h v => match rnm ns rs h v with
    | some p => some (.own p.1 p.2)
    | none => match s.H h v with
      | some (.frz c) => some (.c c)
      | _ => none
  | .ptr h v off => match rnm ns rs h v with
    | some p => some (.ptr p.1 p.2 off)
    | none => none
  | .eptr h v sz i j => match rnm ns rs h v with
    | some p => some (.eptr p.1 p.2 sz i j)
    | none => none
  | .fn f caps => match rnAs s ns rs caps with
    | some l => some (.fn f l)
    | none => none
  | .any => some .any
def rnAs (s : AS) (ns rs : List (Nat × Nat)) : List A → Option (List A)
  | [] => some []
  | x :: xs => match rnA s ns rs x, rnAs s ns rs xs with
    | some y, some ys => some (y :: ys)
    | _, _ => none
end
def rnV (s : AS) (ns rs : List (Nat × Nat)) : AV → Option AV
  | .one x => match rnA s ns rs x with
    | some y => some (.one y)
    | none => none
  | .agg xs => match rnAs s ns rs xs with
    | some ys => some (.agg ys)
    | none => none
  | .tup _ => some .undef
  | .undef => some .undef
def rnB (s : AS) (ns rs : List (Nat × Nat)) : Option Blk → Option Blk
  | some (.box cells) => match rnAs s ns rs cells with
    | some ys => some (.box ys)
    | none => none
  | some (.arr E sz xs) => some (.arr E sz xs)
  | some (.map agg ks vs) => some (.map agg ks vs)
  | some (.iter agg ks vs done) => some (.iter agg ks vs done)
  | _ => none
def rnT (s : AS) (ns rs : List (Nat × Nat)) : List Nat → Option (List (Nat × AV))
  | [] => some []
  | t :: ts => match rnV s ns rs (s.t t), rnT s ns rs ts with
    | some v, some l => some ((t, v) :: l)
    | _, _ => none
def rnBs (s : AS) (ns rs : List (Nat × Nat)) : List (Nat × Nat) → List (Nat × Nat) → Option (List ((Nat × Nat) × Blk))
  | n :: ns', r :: rs' => match rnB s ns rs (s.H r.1 r.2), rnBs s ns rs ns' rs' with
    | some b, some l => some ((n, b) :: l)
    | _, _ => none
  | [], [] => some []
  | _, _ => none
def memP (p : Nat × Nat) : List (Nat × Nat) → Bool
  | [] => false
  | q :: l => (Nat.beq p.1 q.1 && Nat.beq p.2 q.2) || memP p l
def nodupP : List (Nat × Nat) → Bool
  | [] => true
  | p :: l => !memP p l && nodupP l
def namesOk : List (Nat × Nat) → List (Nat × Nat) → Bool
  | n :: ns, r :: rs => (Nat.beq n.2 1 || (Nat.beq n.2 0 && Nat.beq r.2 0 && Nat.beq n.1 r.1)) && namesOk ns rs
  | _, _ => true
def proj (s : AS) (sig : List Nat) (ns rs : List (Nat × Nat)) : Option Snap :=
  bo (nodupP ns && nodupP rs && namesOk ns rs) (match rnT s ns rs sig, rnBs s ns rs ns rs with
    | some T, some Bs => some ⟨T, Bs⟩
    | _, _ => none)
def canonH : List ((Nat × Nat) × Blk) → List ((Nat × Nat) × Option Blk)
  | [] => []
  | p :: l => (p.1, some p.2) :: canonH l
def Snap.es (x : Snap) : ES := ⟨x.T, canonH x.Bs, [], 2⟩
def AS.outR (s : AS) : A → R → Option R
  | .c x, .c _ => some (.c x)
  | .nil, .c _ => some (.c (.sl []))
  | .nil, .own E sz _ => some (.own E sz [])
  | .own h v, .own E sz _ => match s.H h v with
    | some (.arr E' sz' xs) => bo (Nat.beq E' E && Nat.beq sz' sz) (some (.own E sz xs))
    | _ => none
  | .own h v, .c _ => match s.H h v with
    | some (.arr _ _ xs) => some (.c (.sl xs))
    | some (.frz c) => some (.c c)
    | _ => none
  | _, _ => none
def AS.outRs (s : AS) : List A → List R → Option (List R)
  | [], [] => some []
  | x :: xs, r :: rs => match s.outR x r, s.outRs xs rs with
    | some y, some ys => some (y :: ys)
    | _, _ => none
  | _, _ => none
def lensEq : List (List A) → List (List R) → Bool
  | [], [] => true
  | x :: xs, r :: rs => Nat.beq x.length r.length && lensEq xs rs
  | _, _ => false
def disjP : List (Nat × Nat) → List (Nat × Nat) → Bool
  | [], _ => true
  | p :: l, g => !memP p g && disjP l g
def cellsSmall (P : Program) : List ResultVar → Bool
  | [] => true
  | .tmp _ :: r => cellsSmall P r
  | .cell _ t :: r => (match tiOf P t with
    | some ti => ti.agg || Nat.beq ti.size 1
    | none => true) && cellsSmall P r
def gd (b : Bool) (p : Prop) : Prop := bif b then p else False
theorem gd_iff {b : Bool} {p : Prop} : gd b p ↔ b = true ∧ p := by cases b <;> simp [gd]
structure Cx (J Y : Type) where
  nt : Nat
  rvs : List ResultVar
  mh : List Nat
  res : Y → List RV
  outs : Y → List (List R)
  path : J → List Nat
  sig : J → List Nat
  snap : J → Snap
def Cx.rs {J Y : Type} (cx : Cx J Y) (y : Y) : List R := (cx.res y).flatMap RV.cells ++ (cx.outs y).flatten
section
variable {P : Program} {J Y : Type}
def triv (rs : Y → List R) (snap : J → Snap) : Cert P J Y → Prop
  | .ret y => some (rs y) = some (rs y)
  | .jump j _ => some (snap j) = some (snap j)
  | .ite _ b c d => AV.one (.c (.bool b)) = AV.one (.c (.bool b)) ∧ triv rs snap c ∧ triv rs snap d
  | .elem E xs i k => E.L xs = E.L xs ∧ i = i ∧ ∀ a, triv rs snap (k a)
  | .idx E xs i k => E.L xs = E.L xs ∧ i = i ∧ triv rs snap k
  | .eget E xs n k => E.L xs = E.L xs ∧ n = n ∧ ∀ a, triv rs snap (k a)
  | .eset E xs n y k => E.L xs = E.L xs ∧ n = n ∧ (∀ a, E.e (y a) = E.e (y a)) ∧ triv rs snap k
  | .byte z i k => z = z ∧ i = i ∧ triv rs snap k
  | .len E xs k => some (E.L xs) = some (E.L xs) ∧ triv rs snap k
  | .app E _ xs ys k => E.L xs = E.L xs ∧ E.L ys = E.L ys ∧ triv rs snap k
  | .cut E xs l h k => E.L xs = E.L xs ∧ some l = some l ∧ some h = some h ∧ triv rs snap k
  | .cat a b k => a = a ∧ b = b ∧ triv rs snap k
  | .bld E xs k => some (xs.map E.e) = some (xs.map E.e) ∧ triv rs snap k
  | .mks E xs k => some (xs.map E.e) = some (xs.map E.e) ∧ triv rs snap k
  | .unby l k => (l.map fun n => [C.int .u8 n]) = (l.map fun n => [C.int .u8 n]) ∧ triv rs snap k
  | .shf b k => b = b ∧ triv rs snap k
  | .dvd b k => b = b ∧ triv rs snap k
  | .mput E ks vs key x k => ks = ks ∧ E.L vs = E.L vs ∧ key = key ∧ E.e x = E.e x ∧ triv rs snap k
  | .mget E ks vs z key k => ks = ks ∧ E.L vs = E.L vs ∧ key = key ∧ E.e z = E.e z ∧ triv rs snap k
  | .nilt E xs k => E.L xs = E.L xs ∧ ∀ b, triv rs snap (k b)
  | .call (f := f) M x k => f = f ∧ some (M.ga x) = some (M.ga x) ∧ M.caps x = M.caps x ∧ ∀ y, triv rs snap (k y)
  | .adoptT _ _ _ k => AV.one A.nil = AV.one A.nil ∧ triv rs snap k
  | .adoptB _ _ _ _ _ k => A.nil = A.nil ∧ triv rs snap k
  | .frz _ _ k => triv rs snap k
  | .frzo _ _ _ k => triv rs snap k
  | .sp S k => S.tr ∧ ∀ b, triv rs snap (k b)
theorem triv_true (rs : Y → List R) (snap : J → Snap) : ∀ c : Cert P J Y, triv rs snap c := by
  intro c
  induction c with
  | ret => exact rfl
  | jump => exact rfl
  | ite _ _ _ _ h1 h2 => exact ⟨rfl, h1, h2⟩
  | elem _ _ _ _ h => exact ⟨rfl, rfl, h⟩
  | idx _ _ _ _ h => exact ⟨rfl, rfl, h⟩
  | eget _ _ _ _ h => exact ⟨rfl, rfl, h⟩
  | eset _ _ _ _ _ h => exact ⟨rfl, rfl, fun _ => rfl, h⟩
  | byte _ _ _ h => exact ⟨rfl, rfl, h⟩
  | len _ _ _ h => exact ⟨rfl, h⟩
  | app _ _ _ _ _ h => exact ⟨rfl, rfl, h⟩
  | cut _ _ _ _ _ h => exact ⟨rfl, rfl, rfl, h⟩
  | cat _ _ _ h => exact ⟨rfl, rfl, h⟩
  | bld _ _ _ h => exact ⟨rfl, h⟩
  | mks _ _ _ h => exact ⟨rfl, h⟩
  | unby _ _ h => exact ⟨rfl, h⟩
  | shf _ _ h => exact ⟨rfl, h⟩
  | dvd _ _ h => exact ⟨rfl, h⟩
  | mput _ _ _ _ _ _ h => exact ⟨rfl, rfl, rfl, rfl, h⟩
  | mget _ _ _ _ _ _ h => exact ⟨rfl, rfl, rfl, rfl, h⟩
  | nilt _ _ _ h => exact ⟨rfl, h⟩
  | call _ _ _ h => exact ⟨rfl, rfl, rfl, h⟩
  | adoptT _ _ _ _ h => exact ⟨rfl, h⟩
  | adoptB _ _ _ _ _ _ h => exact ⟨rfl, h⟩
  | frz _ _ _ h => exact h
  | frzo _ _ _ _ h => exact h
  | sp S _ h => exact ⟨S.htr, h⟩
abbrev KC (P : Program) (J Y : Type) := Cert P J Y → ES → Prop
def pre (K : KC P J Y) : KC P J Y
  | .adoptT t E sz k, s => lkT s.T t = .one .nil ∧ pre K k ((s.new (1000 * t + 999) (.arr E sz [])).put (some t) (.one (.own (1000 * t + 999) (lkN s.N0 s.NN (1000 * t + 999)))))
  | .adoptB h v i E sz k, s => match lkH s.HH h v with
    | some (.box cells) => gd (Nat.blt i cells.length) (cells.getD i .any = .nil ∧ pre K k ((s.new (1000 * i + 998) (.arr E sz [])).set h v (.box (cells.set i (.own (1000 * i + 998) (lkN s.N0 s.NN (1000 * i + 998)))))))
    | _ => False
  | .frz h v k, s => pre K k (s.frz h v)
  | c, s => K c s
def branch (t : Nat) (K : KC P J Y) : KC P J Y
  | .ite u b c d, s => bif Nat.beq u t then (lkT s.T t = .one (.c (.bool b)) ∧ K c (s.put (some t) (.one (.c (.bool true)))) ∧ K d (s.put (some t) (.one (.c (.bool false))))) else K (.ite u b c d) s
  | c, s => K c s
def aggB : AV → Bool → Bool
  | .one _, b => !b
  | .agg _, b => b
  | _, _ => false
def aggV : Value → Bool
  | .agg _ => true
  | _ => false
def AS.kl (s : AS) (flat : Bool) (l : List (Nat × Nat)) : List (Nat × Nat) := bif flat then [] else l
def certOut (P : Program) (o : Oper) (s : AS) (K : Cert P J Y → Out → Prop) : Cert P J Y → Prop
  | .elem E xs i k => match o.op with
    | .indexAddr t x ix => match tiOf P t, s.ev x, s.ev ix with
      | some ti, .one (.c (.sl L)), .one (.c (.int _ i')) => match ti.sh with
        | .slice e => match tiOf P e with
          | some te => gd (Nat.beq te.size E.sz) (L = E.L xs ∧ i' = i ∧ ∀ a, K (k a) (.val (.one (.c (.ptr (E.e a))))))
          | none => False
        | _ => False
      | _, _, _ => False
    | _ => False
  | .idx E xs i k => match o.op with
    | .indexAddr t x ix => match tiOf P t, s.ev x, s.ev ix with
      | some ti, .one (.own h v), .one (.c (.int _ i')) => match ti.sh, s.H h v with
        | .slice e, some (.arr _ sz L) => match tiOf P e with
          | some te => gd (Nat.beq sz te.size && Nat.beq sz E.sz) (L = E.L xs ∧ i' = i ∧ K k (.val (.one (.eptr h v sz i.toNat 0))))
          | none => False
        | _, _ => False
      | _, _, _ => False
    | _ => False
  | .eget E xs n k => match o.op with
    | .load t p => match tiOf P t, s.ev p with
      | some ti, .one (.eptr h v sz i j) => match s.H h v with
        | some (.arr _ sz' L) => gd (Nat.beq sz' sz && Nat.beq sz E.sz && Nat.ble (j + ti.size) sz && (ti.agg || Nat.beq ti.size 1)) (L = E.L xs ∧ i = n ∧ ∀ a, K (k a) (.val (mkAV ti.agg (((E.e a).drop j |>.take ti.size).map .c))))
        | _ => False
      | _, _ => False
    | _ => False
  | .eset E xs n y k => match o.op with
    | .store t p x => match o.dst, tiOf P t, s.ev p, s.cellsO (s.ev x) with
      | none, some ti, .one (.eptr h v sz i j), some cs => match s.H h v, s.pks cs with
        | some (.arr E' sz' L), some ys => gd (Nat.beq sz' sz && Nat.beq sz E.sz && !memP (h, v) (owns cs) && Nat.beq ys.length ti.size && Nat.ble (j + ys.length) sz)
            (L = E.L xs ∧ i = n ∧ (∀ a, spl (E.e a) j ys = E.e (y a)) ∧ K k (.store (owns cs) h v (.arr E' sz (E.L (xs.modify n y)))))
        | _, _ => False
      | _, _, _, _ => False
    | _ => False
  | .byte z i k => match o.op with
    | .index t x ix => match tiOf P t, s.ev x, s.ev ix with
      | some ti, .one (.c (.str z')), .one (.c (.int _ i')) => match ti.sh with
        | .string => z' = z ∧ i' = i ∧ K k (.val (.one (.c (.int .u8 (byteAt z i.toNat)))))
        | _ => False
      | _, _, _ => False
    | _ => False
  | .len E xs k => match o.op with
    | .call ⟨.builtin .len, args, ts⟩ => match args.toList, ts.toList with
      | [x], [t] => match tiOf P t, s.ev x with
        | some ti, .one p => match ti.sh with
          | .slice _ => gd (!isStr p) (s.src p = some (E.L xs) ∧ K k (.val (.one (.c (.int .i64 (xs.length : Nat))))))
          | _ => False
        | _, _ => False
      | _, _ => False
    | _ => False
  | .app E by_ xs ys k => match o.op with
    | .call ⟨.builtin .append, args, ts⟩ => match args.toList, ts.toList with
      | [x, y], [t, t'] => match tiOf P t, s.ev x, s.ev y with
        | some ti, .one px, .one py => match ti.sh with
          | .slice e => match tiOf P e, zeroOf P e with
            | some te, some z => match s.dst e te.size px, s.src py with
              | some (xs', l), some ys' => gd (Nat.beq t t' && Nat.beq z.cells.size te.size && Nat.blt 0 te.size && Nat.blt 0 te.bytes && Nat.beq te.bytes by_ && Nat.beq te.size E.sz)
                  (xs' = E.L xs ∧ ys' = E.L ys ∧ K k (.built l (hnd o.dst) (.arr e te.size (E.L (xs ++ ys))) (.one (.own (hnd o.dst) (s.N (hnd o.dst))))))
              | _, _ => False
            | _, _ => False
          | _ => False
        | _, _, _ => False
      | _, _ => False
    | _ => False
  | .cut E xs l h k => match o.op with
    | .slice t x lw hg mx => match mx, tiOf P t, s.ev x with
      | none, some ti, .one (.c (.sl L)) => match ti.sh with
        | .slice e => match tiOf P e with
          | some te => gd (Nat.beq te.size E.sz) (L = E.L xs ∧ s.bnd lw 0 = some l ∧ s.bnd hg xs.length = some h ∧ K k (.val (.one (.c (.sl (E.L ((xs.take h.toNat).drop l.toNat)))))))
          | none => False
        | _ => False
      | _, _, _ => False
    | _ => False
  | .cat a b k => match o.op with
    | .binOp .add t x y _ => match s.ev x, s.ev y with
      | .one (.c (.str a')), .one (.c (.str b')) => a' = a ∧ b' = b ∧ K k (.val (.one (.c (.str (a ++ b)))))
      | _, _ => False
    | _ => False
  | .bld E xs k => match o.op with
    | .buildSlice t n parts => match tiOf P t with
      | some ti => match ti.sh with
        | .slice e => match tiOf P e with
          | some te => match s.fill (places te.size e n 0) parts.toList (List.replicate (n * te.size) .any) with
            | some out => match s.pks out with
              | some ys => gd ((Nat.beq (n * te.size) 0 || (zeroOf P e).isSome) && Nat.ble (n * te.size) 16777216 && !Nat.beq te.size 0)
                  (some (chunk te.size n ys) = some (xs.map E.e) ∧ K k (.packed (owns out) (hnd o.dst) (.arr e te.size (E.L xs)) (.one (.own (hnd o.dst) (s.N (hnd o.dst))))))
              | none => False
            | none => False
          | none => False
        | _ => False
      | none => False
    | _ => False
  | .mks E xs k => match o.op with
    | .makeSlice t l c => match tiOf P t, s.ev l, s.ev c with
      | some ti, .one (.c (.int _ n)), .one (.c (.int _ m)) => match ti.sh with
        | .slice e => match tiOf P e, zeroOf P e with
          | some te, some z => match s.pks (z.cells.toList.map constA) with
            | some zc => gd (decide (0 ≤ n) && decide (m = n) && Nat.ble (n.toNat * te.bytes) 281474976710656 && Nat.beq z.cells.size te.size && Nat.blt 0 te.size && z.cells.toList.all Value.oneCell' && (owns (z.cells.toList.map constA)).isEmpty)
                (some (List.replicate n.toNat zc) = some (xs.map E.e) ∧ K k (.make (hnd o.dst) (.arr e te.size (E.L xs)) (.one (.own (hnd o.dst) (s.N (hnd o.dst))))))
            | none => False
          | _, _ => False
        | _ => False
      | _, _, _ => False
    | _ => False
  | .unby l k => match o.op with
    | .convert t u x => match tiOf P t, tiOf P u, s.ev x with
      | some ti, some tu, .one (.c (.sl L)) => match ti.sh, tu.sh with
        | .slice e, .string => match tiOf P e with
          | some te => match te.sh with
            | .int .u8 => L = (l.map fun n => [C.int .u8 n]) ∧ K k (.val (.one (.c (.str (strOfNums l)))))
            | _ => False
          | none => False
        | _, _ => False
      | _, _, _ => False
    | _ => False
  | .shf b k => match o.op with
    | .binOp op t x y _ => match op, s.ev x, s.ev y with
      | .shl, .one (.c (.int kx a)), .one (.c (.int _ b')) => b' = b ∧ K k (.val (.one (.c (.int kx (kx.wrap (a * 2 ^ (min b.toNat kx.bits)))))))
      | .shr, .one (.c (.int kx a)), .one (.c (.int _ b')) => b' = b ∧ K k (.val (.one (.c (.int kx (a.fdiv (2 ^ (min b.toNat kx.bits)))))))
      | _, _, _ => False
    | _ => False
  | .dvd b k => match o.op with
    | .binOp op t x y _ => match op, s.ev x, s.ev y with
      | .quo, .one (.c (.int kx a)), .one (.c (.int ky b')) => gd (decide (kx = ky)) (b' = b ∧ K k (.val (.one (.c (.int kx (kx.wrap (a.tdiv b)))))))
      | .rem, .one (.c (.int kx a)), .one (.c (.int ky b')) => gd (decide (kx = ky)) (b' = b ∧ K k (.val (.one (.c (.int kx (a.tmod b))))))
      | _, _, _ => False
    | _ => False
  | .mput E ks vs key x k => match o.op with
    | .mapUpdate t m ix y => match o.dst, tiOf P t, s.ev m, s.ev ix, s.cellsO (s.ev y) with
      | none, some ti, .one (.own h v), .one (.c (.str key')), some cs => match ti.sh, s.H h v, s.pks cs with
        | .map kt e, some (.map agg ks' vs'), some ys => match tiOf P kt with
          | some tk => match tk.sh with
            | .string => gd (aggB (s.ev y) agg && !memP (h, v) (owns cs)) (ks' = ks ∧ vs' = E.L vs ∧ key' = key ∧ ys = E.e x ∧ K k (.store (owns cs) h v (.map agg (mputK ks key) (E.L (mputT ks vs key x)))))
            | _ => False
          | none => False
        | _, _, _ => False
      | _, _, _, _, _ => False
    | _ => False
  | .mget E ks vs z key k => match o.op with
    | .lookup t x ix ok => match tiOf P t, s.ev x, s.ev ix with
      | some ti, .one p, .one (.c (.str key')) => match ti.sh, s.mapOf p with
        | .map kt e, some (agg, ks', vs') => match tiOf P kt, tiOf P e, zeroOf P e with
          | some tk, some te, some zv => match s.pks (zv.cells.toList.map constA) with
            | some zc => match tk.sh with
              | .string => gd ((agg == te.agg) && (te.agg || (Nat.beq zc.length 1 && zv.oneCell')) && (!te.agg || aggV zv))
                  (ks' = ks ∧ vs' = E.L vs ∧ key' = key ∧ zc = E.e z ∧ K k (.val (if ok then .tup [mkAV te.agg ((E.e (mgetT ks vs z key)).map .c), .one (.c (.bool (mhas ks key)))] else mkAV te.agg ((E.e (mgetT ks vs z key)).map .c))))
              | _ => False
            | none => False
          | _, _, _ => False
        | _, _ => False
      | _, _, _ => False
    | _ => False
  | .nilt E xs k => match o.op with
    | .binOp op t x y _ => match y, s.ev x, tiOf P t with
      | .const (.slice none 0 0), .one (.c (.sl L)), some ti => match ti.sh, op with
        | .slice _, .eql => L = E.L xs ∧ ∀ b, K (k b) (.val (.one (.c (.bool b))))
        | .slice _, .neq => L = E.L xs ∧ ∀ b, K (k b) (.val (.one (.c (.bool (!b)))))
        | _, _ => False
      | _, _, _ => False
    | _ => False
  | .call (f := f) M x k => match o.op with
    | .call ⟨.value fo, args, _⟩ => match s.ev fo, s.vwVs (args.toList.map s.ev) with
      | .one fa, some ds => match s.cle fa with
        | some (f', caps) => f' = f ∧ some (ds.map DV.g) = some (M.ga x) ∧ caps = M.caps x ∧ ∀ y, K (k y) (.call (s.kl M.flat (s.lnVs (args.toList.map s.ev) ++ s.lnF fa)) (hnd o.dst) ((M.res y).flatMap RV.cells)
            (packAV ((s.frzs (s.kl M.flat (s.lnVs (args.toList.map s.ev) ++ s.lnF fa))).avR (hnd o.dst) (M.res y))))
        | none => False
      | _, _ => False
    | _ => False
  | _ => False
def pureF : List GForm → Bool
  | [] => true
  | .one none :: r => pureF r
  | .one (some _) :: _ => false
  | .agg os :: r => os.all Option.isNone && pureF r
  | .lend _ :: _ => false
def callC (P : Program) (o : Oper) (K : KC P J Y) : KC P J Y
  | .call (f := f) M x k, s => match o.op with
    | .call ⟨.value fo, args, _⟩ => match s.den.ev fo with
      | .one fa => match s.den.cle fa with
        | some (f', caps) => gd (nodupP (s.den.givGs (args.toList.map s.den.ev) M.fs) && disjP (s.den.lentGs (args.toList.map s.den.ev) M.fs ++ s.den.lnF fa) (s.den.givGs (args.toList.map s.den.ev) M.fs))
            (f' = f ∧ s.den.rdGs (args.toList.map s.den.ev) M.fs = some (M.ga x) ∧ caps = M.caps x ∧ ∀ y, K (k y)
              (((((s.frzs (s.den.kl M.flat (s.den.lentGs (args.toList.map s.den.ev) M.fs ++ s.den.lnF fa))).kills (s.den.givGs (args.toList.map s.den.ev) M.fs)).take (hnd o.dst) ((M.res y).flatMap RV.cells ++ (M.outs y).flatten)).setB
                (mutGs (args.toList.map s.den.ev) M.fs) ((s.den.frzs (s.den.kl M.flat (s.den.lentGs (args.toList.map s.den.ev) M.fs ++ s.den.lnF fa))).boxesR (hnd o.dst + ((M.res y).flatMap RV.cells).length) (M.outs y))).put o.dst
                (packAV ((s.den.frzs (s.den.kl M.flat (s.den.lentGs (args.toList.map s.den.ev) M.fs ++ s.den.lnF fa))).avR (hnd o.dst) (M.res y)))))
        | none => False
      | _ => False
    | _ => False
  | _, _ => False
def dynB (o : Oper) (out : Out) : Bool :=
  match out with
  | .val _ => true
  | .make _ _ _ => true
  | .built l _ _ _ => l.isEmpty || isW o
  | .packed l _ _ _ => l.isEmpty || isW o
  | .call l _ rs _ => Nat.ble rs.length 900 && (l.isEmpty || isW o)
  | .store l _ _ _ => l.isEmpty && isW o
def opC (P : Program) (draw : Bool) (o : Oper) (K : KC P J Y) (c : Cert P J Y) (s : ES) : Prop :=
  match xop P o s.den with
  | some out => gd (!draw || dynB o out) (K c (s.apply o.dst out))
  | none => match c with
    | .call M x k => bif pureF M.fs then certOut P o s.den (fun c out => gd (!draw || dynB o out) (K c (s.apply o.dst out))) (.call M x k) else gd (!draw) (callC P o K (.call M x k) s)
    | .sp S k => gd (!draw) (S.chk o s ∧ ∀ b, K (k b) (S.post o s b))
    | c => certOut P o s.den (fun c out => gd (!draw || dynB o out) (K c (s.apply o.dst out))) c
def asks (o : Oper) (K : KC P J Y) : KC P J Y :=
  match o.op with
  | .pick (.tmp t) _ _ => branch t K
  | _ => K
def stepC (P : Program) (ops : Array Oper) (draw : Bool) (o : Oper) (K : KC P J Y) : KC P J Y :=
  match o.guard with
  | none => asks o (opC P draw o K)
  | some (j, want) => match guardSlot ops j with
    | some d => branch d fun c s => match lkT s.T d with
      | .one (.c (.bool true)) => bif want then asks o (opC P draw o K) c s else K c (s.put o.dst (.tup []))
      | .one (.c (.bool false)) => bif want then K c (s.put o.dst (.tup [])) else asks o (opC P draw o K) c s
      | .tup [] => K c (s.put o.dst (.tup []))
      | _ => False
    | none => fun _ _ => False
def atOp (o : Oper) (K : KC P J Y) : KC P J Y
  | .frzo d h v k, s => match o.dst with
    | some e => bif Nat.beq d e then K k (s.frz h v) else K (.frzo d h v k) s
    | none => K (.frzo d h v k) s
  | c, s => K c s
def runC (P : Program) (ops : Array Oper) (draw : Bool) : List Oper → KC P J Y → KC P J Y
  | [], K => K
  | o :: r, K => bif draw then stepC P ops draw o (runC P ops draw r K) else atOp o (stepC P ops draw o (runC P ops draw r K))
def eqL : List Nat → List Nat → Bool
  | [], [] => true
  | x :: xs, y :: ys => Nat.beq x y && eqL xs ys
  | _, _ => false
theorem eqL_eq : ∀ {a b : List Nat}, eqL a b = true → a = b := by
  intro a
  induction a with
  | nil => intro b h; cases b with
    | nil => rfl
    | cons => cases h
  | cons x xs ih => intro b h; cases b with
    | nil => cases h
    | cons y ys =>
      simp only [eqL, Bool.and_eq_true] at h
      rw [Nat.eq_of_beq_eq_true h.1, ih h.2]
def namesOf : List ((Nat × Nat) × Blk) → List (Nat × Nat)
  | [] => []
  | p :: l => p.1 :: namesOf l
def target : Cert P J Y → Option J
  | .jump j _ => some j
  | .adoptT _ _ _ k => target k
  | .adoptB _ _ _ _ _ k => target k
  | .frz _ _ k => target k
  | _ => none
def meet (cx : Cx J Y) (p : List Nat) (K : KC P J Y) : KC P J Y := fun c s =>
  match target c with
  | some j => bif eqL (cx.path j) p then pre (fun c s => match c with
    | .jump j ren => gd (eqL (cx.path j) p) (proj s.den (cx.sig j) (namesOf (cx.snap j).Bs) ren = some (cx.snap j))
    | _ => False) c s else K c s
  | none => K c s
abbrev QC (P : Program) (J Y : Type) := Exit → Cert P J Y → ES → Prop
def thenC (next : KC P J Y) (Q : QC P J Y) : QC P J Y
  | .normal => next
  | e => Q e
def inBlockC (id : Nat) (Q : QC P J Y) : QC P J Y
  | .exit i => bif Nat.beq i id then Q .normal else Q (.exit i)
  | e => Q e
def condC (x : Operand) (K1 K2 : KC P J Y) : KC P J Y := fun c s =>
  match s.den.ev x with
  | .one (.c (.bool true)) => K1 c s
  | .one (.c (.bool false)) => K2 c s
  | _ => False
def asksX (x : Operand) (K : KC P J Y) : KC P J Y :=
  match x with
  | .tmp t => branch t K
  | _ => K
def regF (d : Nat) (K : KC P J Y) : KC P J Y
  | .frzo e h v k, s => bif Nat.beq e d then regF d K k (s.frz h v) else K (.frzo e h v k) s
  | c, s => K c s
def tabE (s : ES) : List Oper → Tab → Tab
  | [], tab => tab
  | o :: r, tab =>
    let look := fun (p : Operand) (tab : Tab) => match p with
      | .tmp t => match lkTab tab t with
        | some _ => tab
        | none => match lkT s.T t with
          | .one (.ptr h v _) => (t, h, v) :: tab
          | _ => tab
      | _ => tab
    let tab1 := match o.op with
      | .load _ p => look p tab
      | .store _ p _ => look p tab
      | .fieldAddr _ p _ => look p tab
      | .nilCheck p => look p tab
      | .move p => look p tab
      | _ => tab
    let step := fun (p : Operand) (tab : Tab) => match p, o.dst, o.guard with
      | .tmp p, some d, none => match lkTab tab p with
        | some q => (d, q) :: tab
        | none => tab
      | _, _, _ => tab
    let tab2 := match o.op with
      | .fieldAddr _ p _ => step p tab1
      | .nilCheck p => step p tab1
      | .move p => step p tab1
      | _ => tab1
    tabE s r tab2
def ptrB (tab : Tab) (s : AS) (o : Oper) : Bool :=
  match rootOf tab o, ptrOf o with
  | some r, some p => match s.ev p with
    | .one (.ptr h v _) => Nat.beq h r.1 && Nat.beq v r.2
    | _ => false
  | _, _ => true
def runDR (P : Program) (ops : Array Oper) (tab : Tab) : List Oper → KC P J Y → KC P J Y
  | [], K => K
  | o :: r, K => fun c s => gd (ptrB tab s.den o) (stepC P ops true o (runDR P ops tab r K) c s)
def execC (P : Program) (cx : Cx J Y) : Code → List Nat → QC P J Y → KC P J Y
  | .skip, _, Q => Q .normal
  | .exit i, _, Q => Q (.exit i)
  | .ret, _, Q => Q .ret
  | .seq x y, p, Q => execC P cx x (0 :: p) (thenC (meet cx (1 :: p) (execC P cx y (1 :: p) Q)) Q)
  | .cond x a b, p, Q => asksX x (condC x (execC P cx a (0 :: p) Q) (execC P cx b (1 :: p) Q))
  | .block i x, p, Q => execC P cx x (0 :: p) (inBlockC i Q)
  | .loop _, p, _ => meet cx p fun _ _ => False
  | .region id ops draw, _, Q => regF (1000000 + id) fun c s => gd (slotsOk cx.nt ops && (!draw || drawOk ops || drawOkR (tabE s ops.toList []) ops)) (bif draw && !drawOk ops then runDR P ops (tabE s ops.toList []) ops.toList (Q .normal) c s else runC P ops draw ops.toList (Q .normal) c s)
  | _, _, _ => fun _ _ => False
def endC (P : Program) (cx : Cx J Y) : KC P J Y := pre fun c s => match c with
  | .ret y => match retAVs P s.den cx.rvs, s.den.boxes cx.mh with
    | some avs, some oc => match retForm avs (cx.res y) with
      | some cells => gd (cellsSmall P cx.rvs && lensEq oc (cx.outs y) && nodupP (gives (cells ++ oc.flatten) (cx.rs y)) && disjP (shows (cells ++ oc.flatten) (cx.rs y)) (gives (cells ++ oc.flatten) (cx.rs y))) (s.den.outRs (cells ++ oc.flatten) (cx.rs y) = some (cx.rs y))
      | none => False
    | _, _ => False
  | _ => False
def topC (P : Program) (cx : Cx J Y) : QC P J Y
  | .normal => endC P cx
  | .ret => endC P cx
  | _ => fun _ _ => False
def posC (P : Program) (cx : Cx J Y) (body : Code) : List Nat → Option (Code × QC P J Y)
  | [] => some (body, topC P cx)
  | i :: p => match posC P cx body p with
    | some (.seq x y, Q) => match i with
      | 0 => some (x, thenC (meet cx (1 :: p) (execC P cx y (1 :: p) Q)) Q)
      | 1 => some (y, Q)
      | _ => none
    | some (.cond _ x y, Q) => match i with
      | 0 => some (x, Q)
      | 1 => some (y, Q)
      | _ => none
    | some (.block id x, Q) => match i with
      | 0 => some (x, inBlockC id Q)
      | _ => none
    | some (.loop x, Q) => match i with
      | 0 => some (x, thenC (meet cx p fun _ _ => False) Q)
      | _ => none
    | _ => none
def chkAt (P : Program) (cx : Cx J Y) (body : Code) (p : List Nat) (c : Cert P J Y) (s : ES) : Prop :=
  match posC P cx body p with
  | some (.loop x, Q) => execC P cx x (0 :: p) (thenC (meet cx p fun _ _ => False) Q) c s
  | some (x, Q) => execC P cx x p Q c s
  | none => False
end
end Go.AV
end
