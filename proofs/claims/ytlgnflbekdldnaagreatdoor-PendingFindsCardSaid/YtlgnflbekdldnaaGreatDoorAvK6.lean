/- Texts Av6. -/
import Derived.Test.YtlgnflbekdldnaaGreatDoorAvK5
set_option linter.unusedVariables false
set_option linter.unusedSimpArgs false
set_option linter.unusedSectionVars false
noncomputable section
namespace Go.AV
open Go.RowKit
section
variable {B : Nat → Prop} {nt : Nat} {w0 : Base} {w : World} {s : AS} {a : Act} {gv : GV} {P : Program} {o : Oper} {K : AS → Prop}
theorem sh_slice {d : TypeDesc} {e : TypeId} (h : shOf d = .slice e) : d = .slice e := by
  cases d <;> simp [shOf] at h ⊢; exact h
theorem sh_array {d : TypeDesc} {n : Nat} {e : TypeId} (h : shOf d = .array n e) : d = .array n e := by
  cases d <;> simp [shOf] at h ⊢; exact h
theorem sh_string {d : TypeDesc} (h : shOf d = .string) : d = .string := by
  cases d <;> simp [shOf] at h ⊢
theorem opok_indexAddr (hd : ∀ x, o.dst = some x → x < nt) (t : TypeId) (x ix : Operand) (ho : o.op = .indexAddr t x ix) (ti : TI) (ht : tiOf P t = some ti) (e : TypeId) (hsh : ti.sh = .slice e)
    (te : TI) (he : tiOf P e = some te) (xs : List (List C)) (hx : s.ev x = .one (.c (.sl xs))) (k : IntKind) (i : Int) (hi : s.ev ix = .one (.c (.int k i))) (h0 : 0 ≤ i) (h1 : i < xs.length)
    (hl : (xs.getD i.toNat []).length = te.size) (hk : K (s.put o.dst (.one (.c (.ptr (xs.getD i.toNat [])))))) : OpOK B P nt w0 o s K :=
  opok_val hd _ hk fun a w gv hs => by
    obtain ⟨_, d, g1, g2, g3, g4, g5, g6, g7⟩ := tiOf_some ht
    obtain ⟨ie, de, f1, f2, f3, f4, f5, f6, f7⟩ := tiOf_some he
    have hd' := sh_slice (g7.symm.trans hsh)
    subst hd'
    have hxv := hs.ev x
    have hiv := hs.ev ix
    rw [hx] at hxv
    rw [hi] at hiv
    have hiv' := hiv.int_inv.1
    generalize hev : a.eval x = v at hxv
    cases hxv with | one hxv =>
    cases hxv with | c hxv =>
    have hshape : ∃ ad n cap, v = .slice ad n cap := by cases hxv <;> exact ⟨_, _, _, rfl⟩
    obtain ⟨ad, n, cap, rfl⟩ := hshape
    obtain ⟨hn, helem⟩ := hxv.elem
    obtain ⟨b, off, rfl, hrep⟩ := helem i.toNat (by omega)
    refine ⟨.pointer (some ⟨b, off + i.toNat * (xs.getD i.toNat []).length, none⟩), ?_, .one (.c hrep)⟩
    have hlt : i < (n : Int) := by omega
    have hr : (Instr.indexAt t (.slice (some ⟨b, off, none⟩) n cap) (.int k i)).run P w = .ok (.pointer (some ((⟨b, off, none⟩ : Addr).add (i.toNat * ie.size)))) w := by
      simp [Instr.indexAt, asIntOf, run_underlying g2, h0, hlt, sizeOf_run f1]
    rw [hl, f4]
    simp [execOp, ho, hev, hiv', hr, addr_add]
theorem opok_indexAddr_own (hd : ∀ x, o.dst = some x → x < nt) (t : TypeId) (x ix : Operand) (ho : o.op = .indexAddr t x ix) (ti : TI) (ht : tiOf P t = some ti) (e : TypeId) (hsh : ti.sh = .slice e)
    (te : TI) (he : tiOf P e = some te) (h v : Nat) (hx : s.ev x = .one (.own h v)) (E sz : Nat) (xs : List (List C)) (hH : s.H h v = some (.arr E sz xs)) (hsz : sz = te.size)
    (k : IntKind) (i : Int) (hi : s.ev ix = .one (.c (.int k i))) (h0 : 0 ≤ i) (h1 : i < xs.length)
    (hk : K (s.put o.dst (.one (.eptr h v sz i.toNat 0)))) : OpOK B P nt w0 o s K :=
  opok_val hd _ hk fun a w gv hs => by
    obtain ⟨_, d, g1, g2, g3, g4, g5, g6, g7⟩ := tiOf_some ht
    obtain ⟨ie, de, f1, f2, f3, f4, f5, f6, f7⟩ := tiOf_some he
    have hd' := sh_slice (g7.symm.trans hsh)
    subst hd'
    have hxv := hs.ev x
    have hiv := hs.ev ix
    rw [hx] at hxv
    rw [hi] at hiv
    have hiv' := hiv.int_inv.1
    generalize hev : a.eval x = u at hxv
    cases hxv with | one hxv =>
    cases hxv with | own hv hxx =>
    have hu := hxx (by rw [hH]; simp)
    obtain ⟨vals, hszs, hrow, hcs⟩ := hs.live h v _ hH
    rcases hrow.2 with ⟨hg, hn⟩ | ⟨g, cap, cur, hg, hbase, hheap, hlen, hcap, hcur, htake⟩
    · omega
    · rw [hg] at hu
      subst hu
      refine ⟨.pointer (some ⟨g, i.toNat * sz, none⟩), ?_, .one (.eptr hv (fun _ => ⟨g, by rw [hg]; rfl, by simp⟩))⟩
      have hr : (Instr.indexAt t (.slice (some ⟨g, 0, none⟩) xs.length cap) (.int k i)).run P w = .ok (.pointer (some ((⟨g, 0, none⟩ : Addr).add (i.toNat * ie.size)))) w := by
        simp [Instr.indexAt, asIntOf, run_underlying g2, h0, h1, sizeOf_run f1]
      simp [execOp, ho, hev, hiv', hr, addr_add, ← f4, hsz]
theorem opok_indexAddr_arr (hd : ∀ x, o.dst = some x → x < nt) (t : TypeId) (x ix : Operand) (ho : o.op = .indexAddr t x ix) (ti : TI) (ht : tiOf P t = some ti) (n : Nat) (e : TypeId) (hsh : ti.sh = .array n e)
    (te : TI) (he : tiOf P e = some te) (pa : A) (hx : s.ev x = .one pa) (k : IntKind) (i : Int) (hi : s.ev ix = .one (.c (.int k i))) (h0 : 0 ≤ i) (h1 : i < n)
    (hok : s.ptrOk (i.toNat * te.size) pa) (hk : K (s.put o.dst (.one (pa.adv (i.toNat * te.size))))) : OpOK B P nt w0 o s K :=
  opok_val hd _ hk fun a w gv hs => by
    obtain ⟨_, d, g1, g2, g3, g4, g5, g6, g7⟩ := tiOf_some ht
    obtain ⟨ie, de, f1, f2, f3, f4, f5, f6, f7⟩ := tiOf_some he
    have hd' := sh_array (g7.symm.trans hsh)
    subst hd'
    have hxv := hs.ev x
    have hiv := hs.ev ix
    rw [hx] at hxv
    rw [hi] at hiv
    have hiv' := hiv.int_inv.1
    generalize hev : a.eval x = u at hxv
    cases hxv with | one hxv =>
    obtain ⟨b, off, rfl, hrep⟩ := hs.adv _ hxv hok
    refine ⟨_, ?_, .one hrep⟩
    have hr : (Instr.indexAt t (.pointer (some ⟨b, off, none⟩)) (.int k i)).run P w = .ok (.pointer (some ((⟨b, off, none⟩ : Addr).add (i.toNat * ie.size)))) w := by
      simp [Instr.indexAt, asIntOf, run_underlying g2, Instr.sureAddr, h0, h1, sizeOf_run f1]
    simp [execOp, ho, hev, hiv', hr, addr_add, ← f4]
def byteAt (x : ByteArray) (i : Nat) : Int := ((x.data.toList.getD i 0).toNat : Int)
theorem byteAt_wrap (x : ByteArray) (i : Nat) : IntKind.u8.wrap (byteAt x i) = byteAt x i := by
  rw [wrap_iff]
  have := (x.data.toList.getD i 0).toNat_lt
  simp only [byteAt, lo, hi]
  omega
theorem opok_indexStr (hd : ∀ x, o.dst = some x → x < nt) (t : TypeId) (x ix : Operand) (ho : o.op = .index t x ix) (ti : TI) (ht : tiOf P t = some ti) (hsh : ti.sh = .string)
    (z : ByteArray) (hx : s.ev x = .one (.c (.str z))) (k : IntKind) (i : Int) (hi : s.ev ix = .one (.c (.int k i))) (h0 : 0 ≤ i) (h1 : i < z.size)
    (hk : K (s.put o.dst (.one (.c (.int .u8 (byteAt z i.toNat)))))) : OpOK B P nt w0 o s K :=
  opok_val hd _ hk fun a w gv hs => by
    obtain ⟨_, d, g1, g2, g3, g4, g5, g6, g7⟩ := tiOf_some ht
    have hd' := sh_string (g7.symm.trans hsh)
    subst hd'
    have hxv := hs.ev x
    have hiv := hs.ev ix
    rw [hx] at hxv
    rw [hi] at hiv
    have hiv' := hiv.int_inv.1
    have hxv' := hxv.str_inv.1
    refine ⟨.int .u8 (byteAt z i.toNat), ?_, .one (.c (.int _ _ (byteAt_wrap _ _)))⟩
    have hlt : i.toNat < z.size := by omega
    have hget : z[i.toNat]? = some z[i.toNat] := getElem?_pos z i.toNat hlt
    have hb : ((z[i.toNat].toNat : Int)) = byteAt z i.toNat := by
      unfold byteAt
      rw [getD_lt _ _ _ (by simpa using hlt)]
      rfl
    have hr : (Instr.index t (.string z) (.int k i)).run P w = .ok (.int .u8 (z[i.toNat].toNat : Int)) w := by
      simp only [Instr.index, Sem.run_bind, asIntOf, Sem.run_pure, Result.andThen_ok, run_underlying g2, h0, if_true, hget]
    rw [← hb]
    simp [execOp, ho, hxv', hiv', hr]
theorem execOp_builtin (ρ : Operand → Value) (o : Oper) (b : Builtin) (args : Array Operand) (at_ : Array TypeId) (ho : o.op = .call ⟨.builtin b, args, at_⟩) (w : World) :
    (execOp ρ o).run P w = (builtin b at_ o.type (args.map fun | .const _ => true | _ => false) (args.map ρ)).run P w := by
  simp [execOp, ho, resolve, invoke]
  rfl
def AS.len (s : AS) : A → Option Nat
  | .c (.sl xs) => some xs.length
  | .c (.str z) => some z.size
  | .nil => some 0
  | .own h v => match s.H h v with
    | some (.arr _ _ xs) => some xs.length
    | _ => none
  | _ => none
theorem SimG.lenBound (h : SimG B nt w0 s a w gv) {p : A} {v : Value} {n : Nat} (hr : RepA B w s gv p v) (hn : s.len p = some n) : n ≤ maxLen ∧ ((∃ ad cap, v = .slice ad n cap ∧ ∀ z, p ≠ .c (.str z)) ∨ ∃ z, p = .c (.str z) ∧ v = .string z ∧ n = z.size) := by
  cases hr with
  | @c x v hx =>
    cases hx with
    | nil => simp [AS.len] at hn; subst hn; exact ⟨Nat.zero_le _, .inl ⟨none, 0, rfl, by simp⟩⟩
    | empty a => simp [AS.len] at hn; subst hn; exact ⟨Nat.zero_le _, .inl ⟨some a, 0, rfl, by simp⟩⟩
    | sl xs b off cap sz vals hok hb hle hm => simp [AS.len] at hn; subst hn; exact ⟨Nat.le_trans hle hm, .inl ⟨_, _, rfl, by simp⟩⟩
    | str z hz => simp [AS.len] at hn; subst hn; exact ⟨hz, .inr ⟨z, rfl, rfl, rfl⟩⟩
    | _ => simp [AS.len] at hn
  | nil => simp [AS.len] at hn; subst hn; exact ⟨Nat.zero_le _, .inl ⟨none, 0, rfl, by simp⟩⟩
  | @own i u x hv hx =>
    simp only [AS.len] at hn
    split at hn
    · rename_i E sz xs hH
      cases hn
      have := hx (by rw [hH]; simp)
      subst this
      obtain ⟨vals, hszs, hrow, hcs⟩ := h.live i u _ hH
      rcases hrow.2 with ⟨hg, hn⟩ | ⟨g, cap, cur, hg, hbase, hheap, hlen, hcap, hcur, htake⟩
      · rw [hn]; exact ⟨Nat.zero_le _, .inl ⟨none, 0, hg, by simp⟩⟩
      · exact ⟨Nat.le_trans hlen hcap, .inl ⟨_, _, hg, by simp⟩⟩
    · cases hn
  | _ => simp [AS.len] at hn
theorem opok_len (hd : ∀ x, o.dst = some x → x < nt) (x : Operand) (t : TypeId) (ho : o.op = .call ⟨.builtin .len, #[x], #[t]⟩) (ti : TI) (ht : tiOf P t = some ti)
    (hsh : (∃ e, ti.sh = .slice e) ∨ ti.sh = .string) (p : A) (hx : s.ev x = .one p) (n : Nat) (hn : s.len p = some n) (hstr : ti.sh = .string ↔ ∃ z, p = .c (.str z))
    (hk : n ≤ maxLen → K (s.put o.dst (.one (.c (.int .i64 n))))) : OpOK B P nt w0 o s K := by
  intro a w ⟨gv, hs, hK⟩ Q
  obtain ⟨_, d, g1, g2, g3, g4, g5, g6, g7⟩ := tiOf_some ht
  have hxv := hs.ev x
  rw [hx] at hxv
  generalize hev : a.eval x = v at hxv
  cases hxv with | one hxv =>
  obtain ⟨hle, hv⟩ := hs.lenBound hxv hn
  have hr : (execOp a.eval o).run P w = .ok (.value (.int .i64 n)) w := by
    rw [execOp_builtin a.eval o .len #[x] #[t] ho]
    rcases hv with ⟨ad, cap, rfl, hne⟩ | ⟨z, rfl, rfl, rfl⟩
    · rcases hsh with ⟨e, hsh⟩ | hsh
      · have hd' := sh_slice (g7.symm.trans hsh)
        subst hd'
        simp [builtin, hev, Builtin.len_, run_underlying g2, goInt]
      · obtain ⟨z, hz⟩ := hstr.1 hsh
        exact absurd hz (hne z)
    · have hsh' := hstr.2 ⟨z, rfl⟩
      have hd' := sh_string (g7.symm.trans hsh')
      subst hd'
      simp [builtin, hev, Builtin.len_, run_underlying g2, goInt]
  unfold Oper.wp
  rw [hr]
  exact ⟨_, hk hle, gv, hs.put o.dst hd _ _ (.one (.c (.int _ _ ((wrap_iff _ _).2 (by simp only [lo, hi]; simp only [maxLen] at hle; omega))))), hK.putd _ _⟩
theorem opok_min (hd : ∀ x, o.dst = some x → x < nt) (x y : Operand) (ts : Array TypeId) (ho : o.op = .call ⟨.builtin .min, #[x, y], ts⟩) (k : IntKind) (m n : Int)
    (hx : s.ev x = .one (.c (.int k m))) (hy : s.ev y = .one (.c (.int k n))) (hk : K (s.put o.dst (.one (.c (.int k (if n < m then n else m)))))) : OpOK B P nt w0 o s K :=
  opok_val hd _ hk fun a w gv hs => by
    have hxv := hs.ev x
    have hyv := hs.ev y
    rw [hx] at hxv
    rw [hy] at hyv
    obtain ⟨e1, w1⟩ := hxv.int_inv
    obtain ⟨e2, w2⟩ := hyv.int_inv
    refine ⟨.int k (if n < m then n else m), ?_, .one (.c (.int _ _ (by split <;> assumption)))⟩
    rw [execOp_builtin a.eval o .min #[x, y] ts ho]
    simp [builtin, Builtin.min_, Builtin.min2, e1, e2]
theorem opok_max (hd : ∀ x, o.dst = some x → x < nt) (x y : Operand) (ts : Array TypeId) (ho : o.op = .call ⟨.builtin .max, #[x, y], ts⟩) (k : IntKind) (m n : Int)
    (hx : s.ev x = .one (.c (.int k m))) (hy : s.ev y = .one (.c (.int k n))) (hk : K (s.put o.dst (.one (.c (.int k (if m < n then n else m)))))) : OpOK B P nt w0 o s K :=
  opok_val hd _ hk fun a w gv hs => by
    have hxv := hs.ev x
    have hyv := hs.ev y
    rw [hx] at hxv
    rw [hy] at hyv
    obtain ⟨e1, w1⟩ := hxv.int_inv
    obtain ⟨e2, w2⟩ := hyv.int_inv
    refine ⟨.int k (if m < n then n else m), ?_, .one (.c (.int _ _ (by split <;> assumption)))⟩
    rw [execOp_builtin a.eval o .max #[x, y] ts ho]
    simp [builtin, Builtin.max_, Builtin.max2, e1, e2]
def AS.bound (s : AS) (x : Option Operand) (d : Int) (n : Int) : Prop :=
  match x with
  | some x => ∃ k, s.ev x = .one (.c (.int k n))
  | none => n = d
theorem SimG.bound (hs : SimG B nt w0 s a w gv) {x : Option Operand} {d n : Int} (h : s.bound x d n) : (∃ k, x.map a.eval = some (.int k n)) ∨ (x = none ∧ n = d) := by
  cases x with
  | none => exact .inr ⟨rfl, h⟩
  | some x =>
    obtain ⟨k, hk⟩ := h
    have := hs.ev x
    rw [hk] at this
    exact .inl ⟨k, by simp [this.int_inv.1]⟩
theorem run_sliceBounds (isSlice : Bool) (len cap : Nat) (lw hg : Option Value) (l h : Int) (hl : (∃ k, lw = some (.int k l)) ∨ (lw = none ∧ l = 0)) (hh : (∃ k, hg = some (.int k h)) ∨ (hg = none ∧ h = len))
    (h0 : 0 ≤ l) (h1 : l ≤ h) (h2 : h ≤ cap) : (Instr.sliceBounds isSlice len cap lw hg none).run P w = .ok (l.toNat, h.toNat, cap) w := by
  have hlt : 0 ≤ h := by omega
  rcases hh with ⟨k, rfl⟩ | ⟨rfl, rfl⟩
  · rcases hl with ⟨j, rfl⟩ | ⟨rfl, rfl⟩
    · have hmx : max h 0 = h := by omega
      simp [Instr.sliceBounds, Instr.sliceBound, asIntOf, h0, hlt, h2, hmx, h1]
    · simp [Instr.sliceBounds, Instr.sliceBound, asIntOf, hlt, h2]
  · rcases hl with ⟨j, rfl⟩ | ⟨rfl, rfl⟩
    · simp [Instr.sliceBounds, Instr.sliceBound, asIntOf, h0, h1]
    · simp [Instr.sliceBounds]
theorem opok_slice (hd : ∀ x, o.dst = some x → x < nt) (t : TypeId) (x : Operand) (lw hg : Option Operand) (ho : o.op = .slice t x lw hg none) (ti : TI) (ht : tiOf P t = some ti) (e : TypeId) (hsh : ti.sh = .slice e)
    (te : TI) (he : tiOf P e = some te) (xs : List (List C)) (hx : s.ev x = .one (.c (.sl xs))) (l h : Int) (hl : s.bound lw 0 l) (hh : s.bound hg xs.length h) (h0 : 0 ≤ l) (h1 : l ≤ h) (h2 : h ≤ xs.length)
    (hsz : ∀ y ∈ xs, y.length = te.size) (hk : K (s.put o.dst (.one (.c (.sl ((xs.take h.toNat).drop l.toNat)))))) : OpOK B P nt w0 o s K :=
  opok_val hd _ hk fun a w gv hs => by
    obtain ⟨_, d, g1, g2, g3, g4, g5, g6, g7⟩ := tiOf_some ht
    obtain ⟨ie, de, f1, f2, f3, f4, f5, f6, f7⟩ := tiOf_some he
    have hd' := sh_slice (g7.symm.trans hsh)
    subst hd'
    have hxv := hs.ev x
    rw [hx] at hxv
    generalize hev : a.eval x = v at hxv
    cases hxv with | one hxv =>
    cases hxv with | c hxv =>
    have hb1 := hs.bound hl
    have hb2 := hs.bound hh
    have hb1' : (∃ k, lw.map a.eval = some (.int k l)) ∨ (lw.map a.eval = none ∧ l = 0) := by
      rcases hb1 with h | ⟨rfl, h⟩
      · exact .inl h
      · exact .inr ⟨rfl, h⟩
    have hb2' : (∃ k, hg.map a.eval = some (.int k h)) ∨ (hg.map a.eval = none ∧ h = xs.length) := by
      rcases hb2 with h | ⟨rfl, h⟩
      · exact .inl h
      · exact .inr ⟨rfl, h⟩
    cases hxv with
    | nil =>
      have hr := run_sliceBounds (P := P) (w := w) true 0 0 (lw.map a.eval) (hg.map a.eval) l h hb1' (by simpa using hb2') h0 h1 (by simpa using h2)
      have e1 : l = 0 := by simp at h2; omega
      have e2 : h = 0 := by simp at h2; omega
      subst e1 e2
      refine ⟨.slice none 0 0, ?_, .one (.c (by simpa using RepC.nil))⟩
      simp at hr
      simp [execOp, ho, hev, Instr.sliceAt, Instr.slice, run_underlying g2, hr, sizeOf_run f1]
    | empty ad =>
      have hr := run_sliceBounds (P := P) (w := w) true 0 0 (lw.map a.eval) (hg.map a.eval) l h hb1' (by simpa using hb2') h0 h1 (by simpa using h2)
      have e1 : l = 0 := by simp at h2; omega
      have e2 : h = 0 := by simp at h2; omega
      subst e1 e2
      refine ⟨.slice (some ad) 0 0, ?_, .one (.c (by simpa using RepC.empty ad))⟩
      simp at hr
      simp [execOp, ho, hev, Instr.sliceAt, Instr.slice, run_underlying g2, hr, sizeOf_run f1]
    | sl _ b off cap sz vals hok hb hle hm hszs hc hv =>
      have hr := run_sliceBounds (P := P) (w := w) true xs.length cap (lw.map a.eval) (hg.map a.eval) l h hb1' hb2' h0 h1 (by omega)
      have hr2 : (execOp a.eval o).run P w = .ok (.value (.slice (if cap = l.toNat then some ⟨b, off, none⟩ else some ((⟨b, off, none⟩ : Addr).add (l.toNat * ie.size))) (h.toNat - l.toNat) (cap - l.toNat))) w := by
        simp [execOp, ho, hev, Instr.sliceAt, Instr.slice, run_underlying g2, hr, sizeOf_run f1]
      have hlen : ((xs.take h.toNat).drop l.toNat).length = h.toNat - l.toNat := by simp; omega
      by_cases hcl : cap = l.toNat
      · refine ⟨.slice (some ⟨b, off, none⟩) 0 0, ?_, .one (.c ?_)⟩
        · have e1 : h.toNat - l.toNat = 0 := by omega
          rw [hr2, if_pos hcl, e1, show cap - l.toNat = 0 by omega]
        · have hnil : (xs.take h.toNat).drop l.toNat = [] := List.eq_nil_of_length_eq_zero (by omega)
          rw [hnil]
          exact .sl [] b off 0 0 vals hok hb (by simp) (Nat.zero_le _) (by simp) (by simp) (by simp)
      · by_cases hx0 : xs = []
        · subst hx0
          refine ⟨.slice (some ((⟨b, off, none⟩ : Addr).add (l.toNat * ie.size))) (h.toNat - l.toNat) (cap - l.toNat), ?_, .one (.c ?_)⟩
          · rw [hr2, if_neg hcl]
          · have e1 : l.toNat = 0 := by simp at h2; omega
            have e2 : h.toNat = 0 := by simp at h2; omega
            simp only [e1, e2, List.take_nil, List.drop_nil, Nat.zero_mul, Nat.sub_zero, addr_add, Nat.add_zero]
            exact .sl [] b off cap 0 vals hok hb (by simp) hm (by simp) (by simp) (by simp)
        · have hszeq : sz = te.size := by
            cases xs with
            | nil => exact absurd rfl hx0
            | cons y ys => rw [← hszs y (by simp), hsz y (by simp)]
          refine ⟨.slice (some ((⟨b, off, none⟩ : Addr).add (l.toNat * ie.size))) (h.toNat - l.toNat) (cap - l.toNat), ?_, .one (.c ?_)⟩
          · rw [hr2, if_neg hcl]
          · rw [addr_add, ← f4, ← hszeq, ← hlen]
            have hsz' : ∀ y ∈ (xs.take h.toNat).drop l.toNat, y.length = sz := fun y hy => hszs y (List.mem_of_mem_take (List.mem_of_mem_drop hy))
            have hm1 : ∀ m, m < ((xs.take h.toNat).drop l.toNat).length * sz → l.toNat * sz + m < xs.length * sz := by
              intro m hm'
              rw [hlen] at hm'
              have : h.toNat * sz ≤ xs.length * sz := Nat.mul_le_mul_right _ (by omega)
              have : (h.toNat - l.toNat) * sz + l.toNat * sz = h.toNat * sz := by rw [← Nat.add_mul]; congr 1; omega
              omega
            refine .sl _ b (off + l.toNat * sz) (cap - l.toNat) sz (fun m => vals (l.toNat * sz + m)) hok hb (by omega) (by omega) hsz' (fun m hm' => ?_) (fun m hm' => ?_)
            · have := hc _ (hm1 m hm')
              rwa [← Nat.add_assoc] at this
            · have := hv _ (hm1 m hm')
              have hfl : fl ((xs.take h.toNat).drop l.toNat) m = fl xs (l.toNat * sz + m) := by
                have hpos : 0 < sz := by
                  rcases Nat.eq_zero_or_pos sz with e | e
                  · rw [e] at hm'; simp at hm'
                  · exact e
                have hdm : m = m / sz * sz + m % sz := by rw [Nat.mul_comm]; exact (Nat.div_add_mod m sz).symm
                have hq : m / sz < ((xs.take h.toNat).drop l.toNat).length := by
                  rw [Nat.div_lt_iff_lt_mul hpos]; exact hm'
                have hmod := Nat.mod_lt m hpos
                have e1 := flatten_getD hsz' (m / sz) (m % sz) hq hmod
                have e2 := flatten_getD hszs (l.toNat + m / sz) (m % sz) (by rw [hlen] at hq; omega) hmod
                rw [← hdm] at e1
                rw [Nat.add_mul, Nat.add_assoc, ← hdm] at e2
                rw [e1, e2, getD_drop, getD_take _ _ _ _ (by rw [hlen] at hq; omega)]
              rw [hfl]
              exact this
end
end Go.AV
end
