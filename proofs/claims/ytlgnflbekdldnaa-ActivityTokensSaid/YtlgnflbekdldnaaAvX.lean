/- Further operations: maps. What an operation leaves, as a relation. -/
import Derived.Test.YtlgnflbekdldnaaAvM2
set_option linter.unusedVariables false
set_option linter.unusedSimpArgs false
namespace Go.AV
open Go.RowKit

/-- What an operation leaves: a value; a new block and a value; blocks handed over, a new block and a value; what a call gave back; a block that was written. -/
inductive Out where
  | val (v : AV)
  | make (h : Nat) (b : Blk) (v : AV)
  | built (l : List (Nat × Nat)) (h : Nat) (b : Blk) (v : AV)
  | packed (l : List (Nat × Nat)) (h : Nat) (b : Blk) (v : AV)
  | call (l : List (Nat × Nat)) (base : Nat) (rs : List R) (v : AV)
  | store (l : List (Nat × Nat)) (h v : Nat) (b : Blk)

def Out.apply (s : AS) (d : Option Tmp) : Out → AS
  | .val v => s.put d v
  | .make h b v => (s.new h b).put d v
  | .built l h b v => ((s.kills l).new h b).put d v
  | .packed l h b v => ((s.frzs l).new h b).put d v
  | .call l base rs v => ((s.frzs l).take base rs).put d v
  | .store l h v b => (s.frzs l).set h v b

def hnd : Option Tmp → Nat
  | some d => 1000 * d
  | none => 0

/-- The further operations: what they leave. -/
def xOut (P : Program) (o : Oper) (s : AS) (out : Out) : Prop :=
  match o.op with
  | .makeMap t r => r = none ∧ match tiOf P t with
    | some ti => match ti.sh with
      | .map _ E => match tiOf P E with
        | some te => out = .make (hnd o.dst) (.map te.agg [] []) (.one (.own (hnd o.dst) (s.N (hnd o.dst))))
        | none => False
      | _ => False
    | none => False
  | .lookup t x ix ok => match tiOf P t, s.ev x, s.ev ix with
    | some ti, .one p, .one (.c (.str k)) => match ti.sh, s.mapOf p with
      | .map kt E, some (agg, ks, vs) => match tiOf P kt, tiOf P E, zeroOf P E with
        | some tk, some te, some z => match s.pks (z.cells.toList.map constA) with
          | some zc => (tk.sh = .string ∧ agg = te.agg ∧ (te.agg = false → zc.length = 1 ∧ z.oneCell' = true) ∧ (te.agg = true → ∃ cs, z = .agg cs)) ∧ out = .val (lookAV ok te.agg ks vs zc k)
          | none => False
        | _, _, _ => False
      | _, _ => False
    | _, _, _ => False
  | .mapUpdate t m ix x => o.dst = none ∧ match tiOf P t, s.ev m, s.ev ix, s.cellsO (s.ev x) with
    | some ti, .one (.own h v), .one (.c (.str k)), some cs => match ti.sh, s.H h v, s.pks cs with
      | .map kt E, some (.map agg ks vs), some ys => match tiOf P kt with
        | some tk => (tk.sh = .string ∧ s.ev x = mkAV agg cs ∧ (agg = false → cs.length = 1) ∧ (h, v) ∉ owns cs) ∧ out = .store (owns cs) h v (.map agg (mputK ks k) (mputV ks vs k ys))
        | none => False
      | _, _, _ => False
    | _, _, _, _ => False
  | .nilCheck x => match s.ev x with
    | .one pa => s.ptrOk 0 pa ∧ out = .val (.one pa)
    | _ => False
  | .makeSlice t l c => match tiOf P t, s.ev l, s.ev c with
    | some ti, .one (.c (.int _ n)), .one (.c (.int _ m)) => match ti.sh with
      | .slice e => match tiOf P e, zeroOf P e with
        | some te, some z => match s.pks (z.cells.toList.map constA) with
          | some zc => (0 ≤ n ∧ m = n ∧ n.toNat * te.bytes ≤ 281474976710656 ∧ n.toNat ≤ maxLen ∧ z.cells.size = te.size ∧ 0 < te.size ∧ (∀ u ∈ z.cells.toList, u.oneCell' = true) ∧ owns (z.cells.toList.map constA) = []) ∧
              out = .make (hnd o.dst) (.arr e te.size (List.replicate n.toNat zc)) (.one (.own (hnd o.dst) (s.N (hnd o.dst))))
          | none => False
        | _, _ => False
      | _ => False
    | _, _, _ => False
  | _ => False

section
variable {B : Nat → Prop} {nt : Nat} {w0 : Base} {w : World} {s : AS} {a : Act} {gv : GV} {P : Program} {o : Oper} {K : AS → Prop}

theorem xOut_ok (hd : ∀ x, o.dst = some x → x < nt) {out : Out} (h : xOut P o s out) (hk : K (out.apply s o.dst)) : OpOK B P nt w0 o s K := by
  unfold xOut at h
  split at h
  · rename_i t r ho
    obtain ⟨rfl, h⟩ := h
    split at h
    · split at h
      · split at h
        · subst h
          exact opok_makeMap hd _ t ho _ hk
        · exact h.elim
      · exact h.elim
    · exact h.elim
  · rename_i t x ix ok ho
    split at h
    · rename_i ti p k ht hp hk'
      split at h
      · rename_i kt E agg ks vs hsh hm
        split at h
        · rename_i tk te z htk hte hz
          split at h
          · rename_i zc hzc
            obtain ⟨⟨h1, h2, h3, h4⟩, rfl⟩ := h
            subst h2
            exact opok_lookup hd t x ix ok ho ti ht kt E hsh tk htk h1 te hte z hz zc hzc (fun ha => (h3 ha).1) h4 p hp ks vs hm k hk' (fun ha => (h3 ha).2) hk
          · exact h.elim
        · exact h.elim
      · exact h.elim
    · exact h.elim
  · rename_i t m ix x ho
    obtain ⟨hdn, h⟩ := h
    split at h
    · rename_i ti hh v k cs ht hp hk' hx
      split at h
      · rename_i kt E agg ks vs ys hsh hH hpk
        split at h
        · rename_i tk htk
          obtain ⟨⟨h1, h2, h3, h4⟩, rfl⟩ := h
          exact opok_mapUpdate hdn t m ix x ho ti ht kt E hsh tk htk h1 hh v hp agg ks vs hH k hk' cs hx h2 h3 ys hpk h4 hk
        · exact h.elim
      · exact h.elim
    · exact h.elim
  · rename_i x ho
    split at h
    · rename_i pa hx
      obtain ⟨h1, rfl⟩ := h
      exact opok_nilCheck hd x ho pa hx h1 hk
    · exact h.elim
  · rename_i t l c ho
    split at h
    · rename_i ti kl n kc m ht hl hc
      split at h
      · rename_i e hsh
        split at h
        · rename_i te z hte hz
          split at h
          · rename_i zc hzc
            obtain ⟨⟨h1, rfl, h3, h4, h5, h6, h7, h8⟩, rfl⟩ := h
            obtain ⟨q, rfl⟩ := Int.eq_ofNat_of_zero_le h1
            exact opok_makeSlice hd _ t l c ho ti ht e hsh te hte z hz q kl kc hl hc h3 h4 h5 h6 zc hzc h7 h8 hk
          · exact h.elim
        · exact h.elim
      · exact h.elim
    · exact h.elim
  · exact h.elim

end
end Go.AV
