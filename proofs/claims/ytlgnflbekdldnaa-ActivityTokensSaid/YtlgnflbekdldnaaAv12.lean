/- One operation of whatever kind; regions in the order of the text; code. -/
import Derived.Test.YtlgnflbekdldnaaAvEQ
set_option linter.unusedVariables false
set_option linter.unusedSimpArgs false
namespace Go.AV
open Go.RowKit

/-- The single cells of values. -/
def ones : List AV → Option (List A)
  | [] => some []
  | .one x :: r => (ones r).map (x :: ·)
  | _ :: _ => none

theorem ones_map {l : List AV} {cs : List A} (h : ones l = some cs) : l = cs.map .one := by
  induction l generalizing cs with
  | nil => simp [ones] at h; subst h; rfl
  | cons x r ih =>
    cases x with
    | one x =>
      simp only [ones, Option.map_eq_some_iff] at h
      obtain ⟨cs', h1, rfl⟩ := h
      rw [ih h1]; rfl
    | _ => simp [ones] at h

def isStr : A → Bool
  | .c (.str _) => true
  | _ => false

/-- The bound of a slice expression, if it is told. -/
def AS.bnd (s : AS) (x : Option Operand) (d : Int) : Option Int :=
  match x with
  | none => some d
  | some x => match s.ev x with
    | .one (.c (.int _ n)) => some n
    | _ => none

theorem bnd_ok {s : AS} {x : Option Operand} {d n : Int} (h : s.bnd x d = some n) : s.bound x d n := by
  cases x with
  | none => simpa [AS.bnd, AS.bound] using h.symm
  | some x =>
    simp only [AS.bnd] at h
    split at h
    · rename_i k m he; cases h; exact ⟨k, he⟩
    · cases h

/-- The places of a struct's fields, of an array's elements. -/
def fldsOf (P : Program) (ti : TI) : Option (List (Nat × Nat × TypeId)) :=
  match ti.sh with
  | .struct => some ti.flds
  | .array n e => (tiOf P e).map fun te => places te.size e n 0
  | _ => none

/-- What an operation leaves; 'K' is what has to hold of it. -/
def aOut (P : Program) (o : Oper) (s : AS) (K : Out → Prop) : Prop :=
  match o.op with
  | .move x => K (.val (s.ev x))
  | .assign x => K (.val (s.ev x))
  | .pick c x y => match s.ev c with
    | .one (.c (.bool b)) => K (.val (if b then s.ev x else s.ev y))
    | _ => False
  | .extract x i => match s.ev x with
    | .tup xs => i < xs.length ∧ K (.val (xs.getD i .undef))
    | _ => False
  | .makeFunc (.func f) first caps => first = #[] ∧ match ones (caps.toList.map s.ev) with
    | some cs => K (.val (.one (.fn f cs)))
    | none => False
  | .load t p => match tiOf P t, s.ev p with
    | some ti, .one (.c (.ptr cells)) => ti.size ≤ cells.length ∧ (ti.agg = false → ti.size = 1) ∧ K (.val (mkAV ti.agg ((cells.take ti.size).map .c)))
    | some ti, .one (.ptr h v off) => match s.H h v with
      | some (.box cells) => off + ti.size ≤ cells.length ∧ (ti.agg = false → ti.size = 1) ∧ K (.val (mkAV ti.agg ((cells.drop off).take ti.size)))
      | _ => False
    | some ti, .one (.eptr h v sz i j) => match s.H h v with
      | some (.arr _ sz' xs) => (sz' = sz ∧ i < xs.length ∧ j + ti.size ≤ sz) ∧ (ti.agg = false → ti.size = 1) ∧ K (.val (mkAV ti.agg (((xs.getD i []).drop j |>.take ti.size).map .c)))
      | _ => False
    | _, _ => False
  | .store t p x => o.dst = none ∧ match tiOf P t, s.ev p, s.cellsO (s.ev x) with
    | some ti, .one (.ptr h v off), some cs => match s.H h v with
      | some (.box cells) => (cs.length = ti.size ∧ off + cs.length ≤ cells.length) ∧ K (.store [] h v (.box (spl cells off cs)))
      | _ => False
    | some ti, .one (.eptr h v sz i j), some cs => match s.H h v, s.pks cs with
      | some (.arr E sz' xs), some ys => (sz' = sz ∧ i < xs.length ∧ (h, v) ∉ owns cs ∧ ys.length = ti.size ∧ j + ys.length ≤ sz) ∧ K (.store (owns cs) h v (.arr E sz (xs.set i (spl (xs.getD i []) j ys))))
      | _, _ => False
    | _, _, _ => False
  | .fieldAddr t p f => match tiOf P t, s.ev p with
    | some ti, .one pa => ti.sh = .struct ∧ match ti.flds[f]? with
      | some (fo, fs, _) => fs ≠ 0 ∧ s.ptrOk fo pa ∧ K (.val (.one (pa.adv fo)))
      | none => False
    | _, _ => False
  | .field t p f => match tiOf P t, s.ev p with
    | some ti, .agg as => ti.sh = .struct ∧ match ti.flds[f]? with
      | some (fo, fs, ft) => match tiOf P ft with
        | some fi => (fi.agg = false → fi.size = 1) ∧ fi.size = fs ∧ fo + fs ≤ as.length ∧ K (.val (mkAV fi.agg ((as.drop fo).take fs)))
        | none => False
      | none => False
    | _, _ => False
  | .indexAddr t x ix => match tiOf P t, s.ev x, s.ev ix with
    | some ti, .one pa, .one (.c (.int _ i)) => match ti.sh with
      | .slice e => match tiOf P e with
        | some te => match pa with
          | .c (.sl xs) => 0 ≤ i ∧ i < xs.length ∧ (xs.getD i.toNat []).length = te.size ∧ K (.val (.one (.c (.ptr (xs.getD i.toNat [])))))
          | .own h v => match s.H h v with
            | some (.arr _ sz xs) => sz = te.size ∧ 0 ≤ i ∧ i < xs.length ∧ K (.val (.one (.eptr h v sz i.toNat 0)))
            | _ => False
          | _ => False
        | none => False
      | .array n e => match tiOf P e with
        | some te => 0 ≤ i ∧ i < n ∧ s.ptrOk (i.toNat * te.size) pa ∧ K (.val (.one (pa.adv (i.toNat * te.size))))
        | none => False
      | _ => False
    | _, _, _ => False
  | .index t x ix => match tiOf P t, s.ev x, s.ev ix with
    | some ti, .one (.c (.str z)), .one (.c (.int _ i)) => ti.sh = .string ∧ 0 ≤ i ∧ i < z.size ∧ K (.val (.one (.c (.int .u8 (byteAt z i.toNat)))))
    | _, _, _ => False
  | .slice t x lw hg mx => mx = none ∧ match tiOf P t, s.ev x with
    | some ti, .one (.c (.sl xs)) => match ti.sh, s.bnd lw 0, s.bnd hg xs.length with
      | .slice e, some l, some h => match tiOf P e with
        | some te => 0 ≤ l ∧ l ≤ h ∧ h ≤ xs.length ∧ (∀ y ∈ xs, y.length = te.size) ∧ K (.val (.one (.c (.sl ((xs.take h.toNat).drop l.toNat)))))
        | none => False
      | _, _, _ => False
    | _, _ => False
  | .binOp op t x y _ => match s.ev x, s.ev y with
    | .one (.c (.bool b)), .one (.c (.bool c)) => match tiOf P t, binB op b c with
      | some ti, some z => ti.sh = .bool ∧ K (.val (.one (.c (.bool z))))
      | _, _ => False
    | .one (.c cx), .one (.c cy) => match binC op cx cy with
      | some z => K (.val (.one (.c z)))
      | none => False
    | .one p, .one .nil => match tiOf P t, nilTest p with
      | some ti, some T => y = .const (.slice none 0 0) ∧ (op = .eql ∨ op = .neq) ∧ (∃ e, ti.sh = .slice e) ∧ ∀ b, T b → K (.val (.one (.c (.bool (if op = .eql then b else !b)))))
      | _, _ => False
    | .agg xs, .agg ys => match eqAg P op t xs ys with
      | some z => K (.val (.one (.c (.bool z))))
      | none => False
    | _, _ => False
  | .unOp op t x => match op, s.ev x with
    | .not, .one (.c (.bool b)) => K (.val (.one (.c (.bool (!b)))))
    | .neg, .one (.c (.int k n)) => K (.val (.one (.c (.int k (k.wrap (0 - n))))))
    | _, _ => False
  | .convert t u x => match convAV P t u (s.ev x) with
    | some v => K (.val v)
    | none => False
  | .alloc t => match zeroOf P t with
    | some z => K (.make (hnd o.dst) (.box (z.cells.toList.map constA)) (.one (.ptr (hnd o.dst) (s.N (hnd o.dst)) 0)))
    | none => False
  | .box _ x => match s.cellsO (s.ev x) with
    | some cs => K (.make (hnd o.dst) (.box cs) (.one (.ptr (hnd o.dst) (s.N (hnd o.dst)) 0)))
    | none => False
  | .build t parts => match tiOf P t, zeroOf P t with
    | some ti, some z => match fldsOf P ti with
      | some fl => (∀ x ∈ fl, (P.info? x.2.2).isSome = true) ∧ match s.fill fl parts.toList (z.cells.toList.map constA) with
        | some out => K (.val (.agg out))
        | none => False
      | none => False
    | _, _ => False
  | .buildSlice t n parts => match tiOf P t with
    | some ti => match ti.sh with
      | .slice E => match tiOf P E with
        | some te => (n * te.size = 0 ∨ ∃ z, zeroOf P E = some z) ∧ n * te.size ≤ 2 ^ 24 ∧ te.size ≠ 0 ∧ match s.fill (places te.size E n 0) parts.toList (List.replicate (n * te.size) .any) with
          | some out => match s.pks out with
            | some ys => K (.packed (owns out) (hnd o.dst) (.arr E te.size (chunk te.size n ys)) (.one (.own (hnd o.dst) (s.N (hnd o.dst)))))
            | none => False
          | none => False
        | none => False
      | _ => False
    | none => False
  | .call ⟨.builtin .len, args, ts⟩ => ∃ x t, args = #[x] ∧ ts = #[t] ∧ match tiOf P t, s.ev x with
    | some ti, .one p => match s.len p with
      | some n => (match ti.sh with | .slice _ => isStr p = false | .string => isStr p = true | _ => False) ∧ K (.val (.one (.c (.int .i64 n))))
      | none => False
    | _, _ => False
  | .call ⟨.builtin .min, args, _⟩ => ∃ x y, args = #[x, y] ∧ match s.ev x, s.ev y with
    | .one (.c (.int k m)), .one (.c (.int k' n)) => k = k' ∧ K (.val (.one (.c (.int k (if n < m then n else m)))))
    | _, _ => False
  | .call ⟨.builtin .max, args, _⟩ => ∃ x y, args = #[x, y] ∧ match s.ev x, s.ev y with
    | .one (.c (.int k m)), .one (.c (.int k' n)) => k = k' ∧ K (.val (.one (.c (.int k (if m < n then n else m)))))
    | _, _ => False
  | .call ⟨.builtin .append, args, ts⟩ => ∃ x y t, args = #[x, y] ∧ ts = #[t, t] ∧ match tiOf P t, s.ev x, s.ev y with
    | some ti, .one px, .one py => match ti.sh with
      | .slice E => match tiOf P E, zeroOf P E with
        | some te, some z => match s.dst E te.size px, s.src py with
          | some (xs, l), some ys => z.cells.size = te.size ∧ 0 < te.size ∧ 0 < te.bytes ∧ (∀ y ∈ ys, y.length = te.size) ∧ (xs.length + ys.length) * te.bytes ≤ 140737488355328 ∧
              K (.built l (hnd o.dst) (.arr E te.size (xs ++ ys)) (.one (.own (hnd o.dst) (s.N (hnd o.dst)))))
          | _, _ => False
        | _, _ => False
      | _ => False
    | _, _, _ => False
  | .call ⟨.value fo, args, _⟩ => match s.ev fo, s.viewVs (args.toList.map s.ev) with
    | .one fa, some ds => match s.callee fa with
      | some (f, caps) => ∃ res, Spec P f (ds ++ caps.map .one) res ∧ ∃ kl, (kl = s.lentVs (args.toList.map s.ev) ++ s.lentF fa ∨ (kl = [] ∧ ∀ r ∈ res.flatMap RV.cells, r.flat)) ∧
          K (.call kl (hnd o.dst) (res.flatMap RV.cells) (packAV ((s.frzs kl).avR (hnd o.dst) res)))
      | none => False
    | _, _ => False
  | _ => ∃ out, xOut P o s out ∧ K out

/-- What an operation does to the abstract state; 'K' is what has to hold behind it. -/
def aOp (P : Program) (o : Oper) (s : AS) (K : AS → Prop) : Prop := aOut P o s fun out => K (out.apply s o.dst)

section
variable {B : Nat → Prop} {nt : Nat} {w0 : Base} {w : World} {s : AS} {a : Act} {gv : GV} {P : Program} {o : Oper} {K : AS → Prop}

theorem aOp_ok (hd : ∀ x, o.dst = some x → x < nt) (h : aOp P o s K) : OpOK B P nt w0 o s K := by
  unfold aOp aOut at h
  split at h
  · rename_i x ho; exact opok_move hd x (.inl ho) h
  · rename_i x ho; exact opok_move hd x (.inr ho) h
  · rename_i c x y ho
    split at h
    · rename_i b hb; exact opok_pick hd c x y ho b hb h
    · exact h.elim
  · rename_i x i ho
    split at h
    · rename_i xs hx; exact opok_extract hd x i ho xs hx h.1 h.2
    · exact h.elim
  · rename_i f first caps ho
    obtain ⟨rfl, h⟩ := h
    split at h
    · rename_i cs hc; exact opok_makeFunc hd f caps ho cs (ones_map hc) h
    · exact h.elim
  · -- load
    rename_i t p ho
    split at h
    · rename_i ti cells ht hp
      obtain ⟨h1, h2, h3⟩ := h
      exact opok_load hd t p ho ti ht h2 _ hp _ (by simp [AS.rd, h1]) h3
    · rename_i ti i v off ht hp
      split at h
      · rename_i cells hH
        obtain ⟨h1, h2, h3⟩ := h
        exact opok_load hd t p ho ti ht h2 _ hp _ (by simp [AS.rd, hH, h1]) h3
      · exact h.elim
    · rename_i ti i v sz k j ht hp
      split at h
      · rename_i E sz' xs hH
        obtain ⟨h1, h2, h3⟩ := h
        exact opok_load hd t p ho ti ht h2 _ hp _ (by simp only [AS.rd, hH]; rw [if_pos h1]) h3
      · exact h.elim
    · exact h.elim
  · -- store
    rename_i t p x ho
    obtain ⟨hn, h⟩ := h
    split at h
    · rename_i ti i v off cs ht hp hx
      split at h
      · rename_i cells hH
        obtain ⟨⟨h1, h2⟩, h3⟩ := h
        exact opok_store_box hn t p x ho ti ht i v off hp cells hH cs hx h1 h2 h3
      · exact h.elim
    · rename_i ti i v sz k j cs ht hp hx
      split at h
      · rename_i E sz' xs ys hH hpk
        obtain ⟨⟨rfl, h1, h2, h3, h4⟩, h5⟩ := h
        exact opok_store_arr hn t p x ho ti ht i v sz' k j hp E xs hH h1 cs hx ys hpk h2 h3 h4 h5
      · exact h.elim
    · exact h.elim
  · -- fieldAddr
    rename_i t p f ho
    split at h
    · rename_i ti pa ht hp
      obtain ⟨hsh, h⟩ := h
      split at h
      · rename_i fo fs ft hf
        exact opok_fieldAddr hd t p f ho ti ht hsh fo fs ft hf h.1 pa hp h.2.1 h.2.2
      · exact h.elim
    · exact h.elim
  · -- field
    rename_i t p f ho
    split at h
    · rename_i ti as ht hp
      obtain ⟨hsh, h⟩ := h
      split at h
      · rename_i fo fs ft hf
        split at h
        · rename_i fi hfi
          exact opok_field hd t p f ho ti ht hsh fo fs ft hf fi hfi h.1 h.2.1 as hp h.2.2.1 h.2.2.2
        · exact h.elim
      · exact h.elim
    · exact h.elim
  · -- indexAddr
    rename_i t x ix ho
    split at h
    · rename_i ti pa k i ht hx hi
      split at h
      · rename_i e hsh
        split at h
        · rename_i te he
          split at h
          · rename_i xs
            exact opok_indexAddr hd t x ix ho ti ht e hsh te he xs hx k i hi h.1 h.2.1 h.2.2.1 h.2.2.2
          · rename_i j v
            split at h
            · rename_i E sz xs hH
              exact opok_indexAddr_own hd t x ix ho ti ht e hsh te he j v hx E sz xs hH h.1 k i hi h.2.1 h.2.2.1 h.2.2.2
            · exact h.elim
          · exact h.elim
        · exact h.elim
      · rename_i n e hsh
        split at h
        · rename_i te he
          exact opok_indexAddr_arr hd t x ix ho ti ht n e hsh te he pa hx k i hi h.1 h.2.1 h.2.2.1 h.2.2.2
        · exact h.elim
      · exact h.elim
    · exact h.elim
  · -- index
    rename_i t x ix ho
    split at h
    · rename_i ti z k i ht hx hi
      exact opok_indexStr hd t x ix ho ti ht h.1 z hx k i hi h.2.1 h.2.2.1 h.2.2.2
    · exact h.elim
  · -- slice
    rename_i t x lw hg mx ho
    obtain ⟨rfl, h⟩ := h
    split at h
    · rename_i ti xs ht hx
      split at h
      · rename_i e l u hsh hl hu
        split at h
        · rename_i te he
          exact opok_slice hd t x lw hg ho ti ht e hsh te he xs hx l u (bnd_ok hl) (bnd_ok hu) h.1 h.2.1 h.2.2.1 h.2.2.2.1 h.2.2.2.2
        · exact h.elim
      · exact h.elim
    · exact h.elim
  · -- binOp
    rename_i op t x y t' ho
    split at h
    · rename_i b c hx hy
      split at h
      · rename_i ti z ht hz
        exact opok_binB hd op t t' x y ho ti ht h.1 b c z hx hy hz h.2
      · exact h.elim
    · rename_i cx cy hne hx hy
      split at h
      · rename_i z hz
        exact opok_bin hd op t t' x y ho cx cy z hx hy hz h
      · exact h.elim
    · rename_i p hx hy
      split at h
      · rename_i ti T ht hT
        obtain ⟨_, hop, ⟨e, hsh⟩, hk⟩ := h
        exact opok_nil hd op hop t t' x y ho ti ht e hsh p hx hy T hT hk
      · exact h.elim
    · rename_i xs ys hx hy
      split at h
      · rename_i z hz
        exact opok_eqAg hd op t t' x y ho xs ys z hx hy hz h
      · exact h.elim
    · exact h.elim
  · -- unOp
    rename_i op t x ho
    split at h
    · rename_i b hx; exact opok_not hd t x ho b hx h
    · rename_i k n hx; exact opok_neg hd t x ho k n hx h
    · exact h.elim
  · -- convert
    rename_i t u x ho
    split at h
    · rename_i v hv; exact opok_conv hd t u x ho v hv h
    · exact h.elim
  · -- alloc
    rename_i t ho
    split at h
    · rename_i z hz; exact opok_alloc hd t ho z hz _ h
    · exact h.elim
  · rename_i t x ho
    split at h
    · rename_i cs hc; exact opok_box hd t x ho cs hc _ h
    · exact h.elim
  · -- build
    rename_i t parts ho
    split at h
    · rename_i ti z ht hz
      split at h
      · rename_i fl hfl
        obtain ⟨hp, h⟩ := h
        split at h
        · rename_i out hf
          unfold fldsOf at hfl
          split at hfl
          · rename_i hsh
            cases hfl
            exact opok_build hd t parts ho ti ht hsh z hz hp out hf h
          · rename_i n e hsh
            simp only [Option.map_eq_some_iff] at hfl
            obtain ⟨te, he, rfl⟩ := hfl
            exact opok_buildArr hd t parts ho ti ht n e hsh te he z hz out hf h
          · cases hfl
        · exact h.elim
      · exact h.elim
    · exact h.elim
  · -- buildSlice
    rename_i t n parts ho
    split at h
    · rename_i ti ht
      split at h
      · rename_i E hsh
        split at h
        · rename_i te he
          obtain ⟨h1, h2, h3, h⟩ := h
          split at h
          · rename_i out hf
            split at h
            · rename_i ys hpk
              exact opok_buildSlice hd t n parts ho ti ht E hsh te he h1 h2 h3 out hf ys hpk _ h
            · exact h.elim
          · exact h.elim
        · exact h.elim
      · exact h.elim
    · exact h.elim
  · -- len
    rename_i args ts ho
    obtain ⟨x, t, rfl, rfl, h⟩ := h
    split at h
    · rename_i ti p ht hx
      split at h
      · rename_i n hn
        obtain ⟨h1, h2⟩ := h
        split at h1
        · rename_i e hsh
          refine opok_len hd x t ho ti ht (.inl ⟨e, hsh⟩) p hx n hn ⟨fun h => (by rw [hsh] at h; cases h), ?_⟩ (fun _ => h2)
          rintro ⟨z, rfl⟩
          cases h1
        · rename_i hsh
          refine opok_len hd x t ho ti ht (.inr hsh) p hx n hn ⟨fun _ => ?_, fun _ => hsh⟩ (fun _ => h2)
          unfold isStr at h1
          split at h1
          · exact ⟨_, rfl⟩
          · cases h1
        · exact h1.elim
      · exact h.elim
    · exact h.elim
  · -- min
    rename_i args ts ho
    obtain ⟨x, y, rfl, h⟩ := h
    split at h
    · rename_i k m k' n hx hy
      obtain ⟨rfl, h⟩ := h
      exact opok_min hd x y ts ho k m n hx hy h
    · exact h.elim
  · -- max
    rename_i args ts ho
    obtain ⟨x, y, rfl, h⟩ := h
    split at h
    · rename_i k m k' n hx hy
      obtain ⟨rfl, h⟩ := h
      exact opok_max hd x y ts ho k m n hx hy h
    · exact h.elim
  · -- append
    rename_i args ts ho
    obtain ⟨x, y, t, rfl, rfl, h⟩ := h
    split at h
    · rename_i ti px py ht hx hy
      split at h
      · rename_i E hsh
        split at h
        · rename_i te z he hz
          split at h
          · rename_i xs l ys hdx hsy
            obtain ⟨h1, h2, h3, h4, h5, h6⟩ := h
            exact opok_append hd x y t ho ti ht E hsh te he z hz h1 h2 h3 px py hx hy xs ys l hdx hsy h4 h5 _ h6
          · exact h.elim
        · exact h.elim
      · exact h.elim
    · exact h.elim
  · -- call
    rename_i fo args ts ho
    split at h
    · rename_i fa ds hfa hds
      split at h
      · rename_i f caps hc
        obtain ⟨res, hspec, kl, hkl, h⟩ := h
        exact opok_call hd fo args ts ho fa hfa f caps hc ds hds res hspec kl hkl _ h
      · exact h.elim
    · exact h.elim
  · obtain ⟨out, h1, h2⟩ := h
    exact xOut_ok hd h1 h2

end
end Go.AV
