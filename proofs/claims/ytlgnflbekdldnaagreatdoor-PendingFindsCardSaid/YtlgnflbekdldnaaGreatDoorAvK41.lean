/- Texts AvZl AvZm AvZo. -/
import Derived.Test.YtlgnflbekdldnaaGreatDoorAvK40
set_option linter.unusedVariables false
set_option linter.unusedSimpArgs false
set_option linter.unusedSectionVars false
noncomputable section
set_option maxRecDepth 4000
namespace Go.Proofs
open Go Go.AV VU ZE ZP ZR
attribute [local irreducible] Runs
def Tryz.F147 (n_0 : Int) (low_1 : Int) (high_2 : Int) : Bool := (if (decide (low_1 ≤ n_0)) = true then (decide (n_0 ≤ high_2)) else false)
theorem Tryz.p147 (n_0 : Int) (low_1 : Int) (high_2 : Int) : Tryz.m147.R (n_0, low_1, high_2) (Tryz.F147 n_0 low_1 high_2) := U.ite_if (fun hc => U.ke_ret rfl) (fun hc => U.ke_ret rfl)
def Tryz.F118 (n_0 : Int) (low_1 : Int) (high_2 : Int) : Bool := (if (decide (low_1 ≤ n_0)) = true then (decide (n_0 ≤ high_2)) else false)
theorem Tryz.p118 (n_0 : Int) (low_1 : Int) (high_2 : Int) : Tryz.m118.R (n_0, low_1, high_2) (Tryz.F118 n_0 low_1 high_2) := U.ite_if (fun hc => U.ke_ret rfl) (fun hc => U.ke_ret rfl)
def Tryz.F120 (kind_0 : Int) : Int := (if (kind_0 == 7) = true then 1 else (if (kind_0 == 12) = true then 2 else (if (kind_0 == 14) = true then 3 else (if (kind_0 == 16) = true then 4 else (if (kind_0 == 19) = true then 5 else (if (kind_0 == 23) = true then 6 else (if (kind_0 == 18) = true then 7 else (if (kind_0 == 27) = true then 8 else (if (kind_0 == 28) = true then 9 else (if (kind_0 == 29) = true then 10 else (if (kind_0 == 30) = true then 11 else (if (kind_0 == 31) = true then 12 else (if (kind_0 == 32) = true then 13 else (if (kind_0 == 35) = true then 14 else 0))))))))))))))
theorem Tryz.p120 (kind_0 : Int) : Tryz.m120.R kind_0 (Tryz.F120 kind_0) := U.ite_if (fun hc => U.ke_ret rfl) (fun hc => U.ite_if (fun hc => U.ke_ret rfl) (fun hc => U.ite_if (fun hc => U.ke_ret rfl) (fun hc => U.ite_if (fun hc => U.ke_ret rfl) (fun hc => U.ite_if (fun hc => U.ke_ret rfl) (fun hc => U.ite_if (fun hc => U.ke_ret rfl) (fun hc => U.ite_if (fun hc => U.ke_ret rfl) (fun hc => U.ite_if (fun hc => U.ke_ret rfl) (fun hc => U.ite_if (fun hc => U.ke_ret rfl) (fun hc => U.ite_if (fun hc => U.ke_ret rfl) (fun hc => U.ite_if (fun hc => U.ke_ret rfl) (fun hc => U.ite_if (fun hc => U.ke_ret rfl) (fun hc => U.ite_if (fun hc => U.ke_ret rfl) (fun hc => U.ite_if (fun hc => U.ke_ret rfl) (fun hc => U.ke_ret rfl))))))))))))))
def Tryz.F146_s0 (t2 : GCUses) (t3 : Int) (t7 : Bool) : GCUses := (if t7 = true then (GCUses.mk true false false false false false) else (if (t3 == 3) = true then (GCUses.mk true false false true false false) else (if (t3 == 5) = true then (GCUses.mk true true true true true false) else (if (t3 == 6) = true then (GCUses.mk true true true false true false) else (if (t3 == 7) = true then (GCUses.mk false true false true true false) else (if (t3 == 8) = true then (GCUses.mk false true true false true false) else (if (t3 == 9) = true then (GCUses.mk false false true true true false) else (if (t3 == 12) = true then (GCUses.mk false true false false true false) else (GCUses.mk false false false false true false)))))))))
theorem Tryz.e146_s0 (t2 : GCUses) (t3 : Int) (t7 : Bool) : Ev Tryz.c146 (.s0 t2 t3 t7) (Tryz.F146_s0 t2 t3 t7) := Ev.intro (U.ite_if (fun hc => U.ke_ret rfl) (fun hc => U.ite_if (fun hc => U.ke_ret rfl) (fun hc => U.ite_if (fun hc => U.ke_ret rfl) (fun hc => U.ite_if (fun hc => U.ke_ret rfl) (fun hc => U.ite_if (fun hc => U.ke_ret rfl) (fun hc => U.ite_if (fun hc => U.ke_ret rfl) (fun hc => U.ite_if (fun hc => U.ke_ret rfl) (fun hc => U.ite_if (fun hc => U.ke_ret rfl) (fun hc => U.ke_ret rfl)))))))))
def Tryz.F146 (kind_0 : Int) : GCUses := (if (kind_0 == 1) = true then (GCUses.mk true true false false true true) else (if (kind_0 == 2) = true then (Tryz.F146_s0 (GCUses.mk false false false false false false) kind_0 true) else (Tryz.F146_s0 (GCUses.mk false false false false false false) kind_0 (kind_0 == 4))))
theorem Tryz.p146 (kind_0 : Int) : Tryz.m146.R kind_0 (Tryz.F146 kind_0) := U.ite_if (fun hc => U.ke_ret rfl) (fun hc => U.ite_if (fun hc => U.ke_jump (Tryz.e146_s0 (GCUses.mk false false false false false false) kind_0 true)) (fun hc => U.ke_jump (Tryz.e146_s0 (GCUses.mk false false false false false false) kind_0 (kind_0 == 4))))
def Tryz.F122_s3 (t2 : GEUses) (t3 : Int) (t33 : Bool) : GEUses := (if t33 = true then (GEUses.mk true true false false false false false) else (if (t3 == 17) = true then (GEUses.mk false false false false true true true) else (if (t3 == 20) = true then (GEUses.mk true true false false false true false) else (if (t3 == 25) = true then (GEUses.mk true true false false true false false) else (if (t3 == 26) = true then (GEUses.mk false false false false false true false) else (if (t3 == 33) = true then (GEUses.mk false false false false true false false) else (GEUses.mk false false false false false false false)))))))
theorem Tryz.e122_s3 (t2 : GEUses) (t3 : Int) (t33 : Bool) : Ev Tryz.c122 (.s3 t2 t3 t33) (Tryz.F122_s3 t2 t3 t33) := Ev.intro (U.ite_if (fun hc => U.ke_ret rfl) (fun hc => U.ite_if (fun hc => U.ke_ret rfl) (fun hc => U.ite_if (fun hc => U.ke_ret rfl) (fun hc => U.ite_if (fun hc => U.ke_ret rfl) (fun hc => U.ite_if (fun hc => U.ke_ret rfl) (fun hc => U.ite_if (fun hc => U.ke_ret rfl) (fun hc => U.ke_ret rfl)))))))
def Tryz.F122_s2 (t2 : GEUses) (t3 : Int) (t26 : Bool) : GEUses := (if t26 = true then (GEUses.mk true true false false true false true) else (if (t3 == 11) = true then (GEUses.mk true true false true false false false) else (if (t3 == 15) = true then (Tryz.F122_s3 t2 t3 true) else (Tryz.F122_s3 t2 t3 (t3 == 24)))))
theorem Tryz.e122_s2 (t2 : GEUses) (t3 : Int) (t26 : Bool) : Ev Tryz.c122 (.s2 t2 t3 t26) (Tryz.F122_s2 t2 t3 t26) := Ev.intro (U.ite_if (fun hc => U.ke_ret rfl) (fun hc => U.ite_if (fun hc => U.ke_ret rfl) (fun hc => U.ite_if (fun hc => U.ke_jump (Tryz.e122_s3 t2 t3 true)) (fun hc => U.ke_jump (Tryz.e122_s3 t2 t3 (t3 == 24))))))
def Tryz.F122_s1 (t2 : GEUses) (t3 : Int) (t21 : Bool) : GEUses := (if t21 = true then (GEUses.mk true true false false false false true) else (if (t3 == 10) = true then (Tryz.F122_s2 t2 t3 true) else (Tryz.F122_s2 t2 t3 (t3 == 22))))
theorem Tryz.e122_s1 (t2 : GEUses) (t3 : Int) (t21 : Bool) : Ev Tryz.c122 (.s1 t2 t3 t21) (Tryz.F122_s1 t2 t3 t21) := Ev.intro (U.ite_if (fun hc => U.ke_ret rfl) (fun hc => U.ite_if (fun hc => U.ke_jump (Tryz.e122_s2 t2 t3 true)) (fun hc => U.ke_jump (Tryz.e122_s2 t2 t3 (t3 == 22)))))
def Tryz.F122_s0 (t2 : GEUses) (t3 : Int) (t10 : Bool) : GEUses := (if t10 = true then (GEUses.mk false true false false false false false) else (if (t3 == 5) = true then (GEUses.mk false true false true false false false) else (if (t3 == 8) = true then (GEUses.mk true true true false false false false) else (if (t3 == 9) = true then (Tryz.F122_s1 t2 t3 true) else (if (t3 == 13) = true then (Tryz.F122_s1 t2 t3 true) else (Tryz.F122_s1 t2 t3 (t3 == 21)))))))
theorem Tryz.e122_s0 (t2 : GEUses) (t3 : Int) (t10 : Bool) : Ev Tryz.c122 (.s0 t2 t3 t10) (Tryz.F122_s0 t2 t3 t10) := Ev.intro (U.ite_if (fun hc => U.ke_ret rfl) (fun hc => U.ite_if (fun hc => U.ke_ret rfl) (fun hc => U.ite_if (fun hc => U.ke_ret rfl) (fun hc => U.ite_if (fun hc => U.ke_jump (Tryz.e122_s1 t2 t3 true)) (fun hc => U.ite_if (fun hc => U.ke_jump (Tryz.e122_s1 t2 t3 true)) (fun hc => U.ke_jump (Tryz.e122_s1 t2 t3 (t3 == 21))))))))
def Tryz.F122 (kind_0 : Int) : GEUses := (if (kind_0 == 1) = true then (GEUses.mk false false true false true true true) else (if (kind_0 == 2) = true then (GEUses.mk false false true false false false false) else (if (kind_0 == 3) = true then (Tryz.F122_s0 (GEUses.mk false false false false false false false) kind_0 true) else (if (kind_0 == 4) = true then (Tryz.F122_s0 (GEUses.mk false false false false false false false) kind_0 true) else (Tryz.F122_s0 (GEUses.mk false false false false false false false) kind_0 (kind_0 == 6))))))
theorem Tryz.p122 (kind_0 : Int) : Tryz.m122.R kind_0 (Tryz.F122 kind_0) := U.ite_if (fun hc => U.ke_ret rfl) (fun hc => U.ite_if (fun hc => U.ke_ret rfl) (fun hc => U.ite_if (fun hc => U.ke_jump (Tryz.e122_s0 (GEUses.mk false false false false false false false) kind_0 true)) (fun hc => U.ite_if (fun hc => U.ke_jump (Tryz.e122_s0 (GEUses.mk false false false false false false false) kind_0 true)) (fun hc => U.ke_jump (Tryz.e122_s0 (GEUses.mk false false false false false false false) kind_0 (kind_0 == 6))))))
namespace ZL
open VU ZE ZR
theorem and_or {J : Type} {cert : J → Cert Tryz.prog J Bool} {t t' : Nat} {u b r : Bool} {c : Cert Tryz.prog J Bool} (h : Runs c (U.KE cert r)) : Runs (.ite t u c (.ite t' b c (.ret false))) (U.KE cert ((u || b) && r)) := by
  cases u
  · exact U.run_f rfl (by rw [Bool.false_or]; exact U.and_t fun _ => h)
  · exact U.run_t rfl (by rw [Bool.true_or, Bool.true_and]; exact h)
theorem and_orc {J : Type} {cert : J → Cert Tryz.prog J Bool} {f : FuncId} {A : Type} {M : Mir Tryz.prog f A Bool} {x : A} {t t' : Nat} {u b r : Bool} {c : Cert Tryz.prog J Bool} (hm : M.R x b) (h : Runs c (U.KE cert r)) : Runs (.ite t u c (.call M x fun q => .ite t' q c (.ret false))) (U.KE cert ((u || b) && r)) := by
  cases u
  · exact U.run_f rfl (by rw [Bool.false_or]; exact U.and_c hm fun _ => h)
  · exact U.run_t rfl (by rw [Bool.true_or, Bool.true_and]; exact h)
theorem or_last {J : Type} {cert : J → Cert Tryz.prog J Bool} {f : FuncId} {A : Type} {M : Mir Tryz.prog f A Bool} {x : A} {t : Nat} {u b : Bool} (hm : M.R x b) : Runs (.ite t u (.ret true) (.call M x fun q => .ret q)) (U.KE cert (u || b)) := by
  cases u
  · exact U.run_f rfl (U.run_call _ hm (U.ke_ret (by simp)))
  · exact U.run_t rfl (U.ke_ret (by simp))
def oz : GPolicy := GPolicy.mk (⟨#[]⟩ : ByteArray) 0 0 0 0 0 0 0 0 []
def bareC (c : GCommand) (u : GCUses) : Bool := (u.seq || c.Seq == 0) && ((u.name || strEq c.Name ⟨#[]⟩) && ((u.key || strEq c.Key ⟨#[]⟩) && ((u.n || c.N == 0) && ((u.data || decide (c.Data = vz)) && (u.opts || decide (c.Opts = oz))))))
theorem m148 (c : GCommand) (u : GCUses) (h : cmok c) : Tryz.m148.R (c, u) (bareC c u) :=
  and_or (and_or (and_or (and_or (and_orc (m83 _ _ h.d) (or_last (m143 _ _ h.o))))))
def emptyE (u : GEUses) (e : GEvent) : Bool := (u.seq || e.Seq == 0) && ((u.ref || e.Ref == 0) && ((u.n || e.N == 0) && ((u.code || e.Code == 0) && ((u.name || strEq e.Name ⟨#[]⟩) && ((u.key || strEq e.Key ⟨#[]⟩) && ((u.data || decide (e.Data = vz)) && decide (e.Opts = oz)))))))
theorem m123 (u : GEUses) (e : GEvent) (h : evok e) : Tryz.m123.R (u, e) (emptyE u e) :=
  and_or (and_or (and_or (and_or (and_or (and_or (and_orc (m83 _ _ h.d) (U.run_call _ (m143 _ _ h.o) (U.ke_ret rfl))))))))
def polP (o : GPolicy) : Bool := (strEq o.Queue ⟨#[]⟩ || RT.nameOk o.Queue) && (!decide (64 < (o.Fatal.length : Int)) && ([o.ToStart, o.ToClose, o.Total, o.Beat, o.First, o.Most].all (fun n => Tryz.F147 n 0 1099511627776) && (Tryz.F147 o.Coef 0 10000 && (Tryz.F147 o.Attempts 0 1000 && !o.Fatal.any (fun s => decide (4096 < (s.size : Int)))))))
theorem m149 (o : GPolicy) (ho : fatOk o) : Tryz.m149.R o (polP o) := by
  unfold polP
  have z0 : Ev Tryz.c149 (.s0 o) ([o.ToStart, o.ToClose, o.Total, o.Beat, o.First, o.Most].all (fun n => Tryz.F147 n 0 1099511627776) && (Tryz.F147 o.Coef 0 10000 && (Tryz.F147 o.Attempts 0 1000 && !o.Fatal.any (fun s => decide (4096 < (s.size : Int)))))) := by
    refine Ev.intro (U.run_bld (U.run_len (U.ke_jump ?_)))
    refine U.ev_all [o.ToStart, o.ToClose, o.Total, o.Beat, o.First, o.Most] (fun i => Tryz.J149.s1 o [o.ToStart, o.ToClose, o.Total, o.Beat, o.First, o.Most] ([o.ToStart, o.ToClose, o.Total, o.Beat, o.First, o.Most].length : Int) i) (fun n => Tryz.F147 n 0 1099511627776) _ (by simp) ?_ ?_
    · exact U.run_f U.dec_f (U.and_c (Tryz.p147 _ _ _) fun _ => U.and_c (Tryz.p147 _ _ _) fun _ => U.run_call _ (has200 o.Fatal _ (fun s => decide (4096 < (s.size : Int))) (fun x _ => U.run_ret rfl) ho) (U.ke_ret rfl))
    · intro i hi ht hw x hx hm r ih
      exact U.run_t ht (U.run_idx hi (U.run_eget hi hx (U.and_n (Tryz.p147 _ _ _) fun hp => U.ke_jump (by rw [hw]; exact ih hp))))
  cases hq : strEq o.Queue ⟨#[]⟩
  · rw [Bool.false_or]
    exact U.run_t (by rw [hq]; rfl) (U.and_n (m151 _) fun _ => U.run_len (U.nor_f fun _ => U.ke_jump z0))
  · rw [Bool.true_or, Bool.true_and]
    exact U.run_f (by rw [hq]; rfl) (U.run_len (U.nor_f fun _ => U.ke_jump z0))
def idP (s : ByteArray) : Bool := (bytesL s).all okc && Tryz.F147 (s.size : Int) 1 64
theorem m150 (s : ByteArray) (hs : s.size ≤ 4611686018427387904) : Tryz.m150.R s (idP s) := by
  have hl : (bytesL s).length ≤ 4611686018427387904 := by rw [bytesL_length]; exact hs
  refine U.ke_jump ?_
  unfold idP
  refine U.ev_all (bytesL s) (fun i => Tryz.J150.s0 s (s.size : Int) i) okc _ hl ?_ ?_
  · exact U.run_f (by rw [bytesL_length]; exact U.dec_f) (U.run_call _ (Tryz.p147 _ _ _) (U.ke_ret rfl))
  · intro i hi ht hw x hx hm r ih
    have hi' : i < s.size := by rw [bytesL_length] at hi; exact hi
    have hbx : byteAt s ((i : Int)).toNat = x := by rw [Int.toNat_natCast, bytesL_at s i hi, hx]
    rw [bytesL_length] at ht
    refine U.run_t ht (U.run_byte hi' ?_)
    unfold okc
    rw [← hbx, Bool.and_assoc, Bool.and_assoc, Bool.and_assoc]
    refine U.nor_f fun h1 => U.run_byte hi' (U.nor_f fun h2 => U.run_byte hi' (U.nor_f fun h3 => U.run_byte hi' (U.nor_f fun h4 => U.ke_jump ?_)))
    rw [hw]; exact ih (by unfold okc; rw [← hbx]; rw [h1, h2, h3, h4]; rfl)
theorem m185 (s : ByteArray) (hs : s.size ≤ 4611686018427387904) : Tryz.m185.R s (idP s) := by
  have hl : (bytesL s).length ≤ 4611686018427387904 := by rw [bytesL_length]; exact hs
  refine U.ke_jump ?_
  unfold idP
  refine U.ev_all (bytesL s) (fun i => Tryz.J185.s0 s (s.size : Int) i) okc _ hl ?_ ?_
  · exact U.run_f (by rw [bytesL_length]; exact U.dec_f) (U.run_call _ (Tryz.p118 _ _ _) (U.ke_ret rfl))
  · intro i hi ht hw x hx hm r ih
    have hi' : i < s.size := by rw [bytesL_length] at hi; exact hi
    have hbx : byteAt s ((i : Int)).toNat = x := by rw [Int.toNat_natCast, bytesL_at s i hi, hx]
    rw [bytesL_length] at ht
    refine U.run_t ht (U.run_byte hi' ?_)
    unfold okc
    rw [← hbx, Bool.and_assoc, Bool.and_assoc, Bool.and_assoc]
    refine U.nor_f fun h1 => U.run_byte hi' (U.nor_f fun h2 => U.run_byte hi' (U.nor_f fun h3 => U.run_byte hi' (U.nor_f fun h4 => U.ke_jump ?_)))
    rw [hw]; exact ih (by unfold okc; rw [← hbx]; rw [h1, h2, h3, h4]; rfl)
theorem m232 (x : GVal) : Tryz.m232.R x (!sig x) := by
  have e : (!sig x) = ((x.Kind != 4) || (((x.Items.length : Int) != 2) || (((x.Items.getD 0 default).Kind != 3) || !RT.nameOk (x.Items.getD 0 default).Text))) := by
    unfold sig; simp only [Bool.not_and]; rfl
  rw [e]
  refine U.or_f fun h1 => U.run_len (U.or_f fun h2 => ?_)
  have h2' : ((x.Items.length : Int) == 2) = true := by simpa [bne] using h2
  exact U.run_elemD (two0 h2') (U.or_f fun h3 => U.run_elemD (two0 h2') (U.run_call _ (m151 _) (U.ke_ret rfl)))
theorem m203 (v : GVal) (hv : v.ok) : Tryz.m203.R v (inp v) := by
  have e : inp v = (!(v.Kind != 4) && (!((v.Items.length : Int) != 2) && (!((v.Items.getD 1 default).Kind != 4) && !(v.Items.getD 1 default).Items.any (fun x => !sig x)))) := by
    unfold inp; simp [bne, List.all_eq_not_any_not]
  rw [e]
  refine U.nor_f fun h1 => U.run_len (U.nor_f fun h2 => ?_)
  have h2' : ((v.Items.length : Int) == 2) = true := by simpa [bne] using h2
  exact U.run_elemD (two1 h2') (U.nor_f fun h3 => U.run_elemD (two1 h2') (U.run_call _ (has220 _ _ (fun x => !sig x) (fun x _ => m232 x) (reach80 (GVal.okI (at1_ok h2' hv)).2)) (U.ke_ret rfl)))
theorem m186 (v : GVal) (hv : v.ok) : Tryz.m186.R v (inp v) := by
  have e : inp v = (!(v.Kind != 4) && (!((v.Items.length : Int) != 2) && (!((v.Items.getD 1 default).Kind != 4) && ((v.Items.getD 1 default).Items.all sig && true)))) := by
    unfold inp; simp [bne]
  rw [e]
  refine U.nor_f fun h1 => U.run_len (U.nor_f fun h2 => ?_)
  have h2' : ((v.Items.length : Int) == 2) = true := by simpa [bne] using h2
  refine U.run_elemD (two1 h2') (U.nor_f fun h3 => U.run_elemD (two1 h2') (U.run_len (U.ke_jump ?_)))
  refine U.ev_all (v.Items.getD 1 default).Items (fun i => Tryz.J186.s0 (v.Items.getD 1 default).Items ((v.Items.getD 1 default).Items.length : Int) i) sig true (reach80 (GVal.okI (at1_ok h2' hv)).2) (U.run_f U.dec_f (U.ke_ret rfl)) ?_
  intro i hi ht hw x hx hm r ih
  have e2 : sig x = (!(x.Kind != 4) && (!((x.Items.length : Int) != 2) && (!((x.Items.getD 0 default).Kind != 3) && RT.nameOk (x.Items.getD 0 default).Text))) := by
    unfold sig; simp [bne]
  refine U.run_t ht (U.run_elemX hi hx ?_)
  rw [e2, Bool.and_assoc, Bool.and_assoc, Bool.and_assoc]
  refine U.nor_f fun h4 => U.run_len (U.nor_f fun h5 => ?_)
  have h5' : ((x.Items.length : Int) == 2) = true := by simpa [bne] using h5
  refine U.run_elemD (two0 h5') (U.nor_f fun h6 => U.run_elemD (two0 h5') (U.and_n (m151 _) fun h7 => U.ke_jump ?_))
  rw [hw]; exact ih (by have h6' : ((x.Items.getD 0 default).Kind != 3) = false := h6; have h7' : RT.nameOk (x.Items.getD 0 default).Text = true := h7; rw [e2, h4, h5, h6', h7']; rfl)
def numO (s : ByteArray) : Int × Bool := by classical exact if h : ∃ y, Tryz.m187.R s y then Classical.choose h else (0, false)
theorem numO_ok {s : ByteArray} (h : ∃ y, Tryz.m187.R s y) : Tryz.m187.R s (numO s) := by unfold numO; rw [dif_pos h]; exact Classical.choose_spec h
end ZL
open ZL
def Tryz.F152 (c_0 : GCommand) : Bool := (if (c_0.Kind == 3) = true then (Tryz.F147 c_0.N 1 1099511627776) else (if (c_0.Kind == 5) = true then (Tryz.F147 c_0.N 0 2) else (if (c_0.Kind == 9) = true then (Tryz.F147 c_0.N 0 1) else (if (c_0.Kind == 7) = true then (if (c_0.N == (-1)) = true then true else (if (Tryz.F147 c_0.N 0 2147483647) = true then (c_0.Data.Kind == 0) else false)) else (if (c_0.Kind == 10) = true then (c_0.Data.Kind == 5) else (if (c_0.Kind == 14) = true then (inp c_0.Data) else true))))))
theorem Tryz.p152 (c_0 : GCommand) (h : cmok c_0) : Tryz.m152.R c_0 (Tryz.F152 c_0) := U.ite_if (fun hc => U.run_call  _ (Tryz.p147 _ _ _) (U.ke_ret rfl)) (fun hc => U.ite_if (fun hc => U.run_call  _ (Tryz.p147 _ _ _) (U.ke_ret rfl)) (fun hc => U.ite_if (fun hc => U.run_call  _ (Tryz.p147 _ _ _) (U.ke_ret rfl)) (fun hc => U.ite_if (fun hc => U.ite_if (fun hc => U.ke_ret rfl) (fun hc => U.run_call  _ (Tryz.p147 _ _ _) (U.ite_if (fun hc => U.ke_ret rfl) (fun hc => U.ke_ret rfl)))) (fun hc => U.ite_if (fun hc => U.ke_ret rfl) (fun hc => U.ite_if (fun hc => U.run_call  _ (ZL.m203 _ h.d) (U.ke_ret rfl)) (fun hc => U.ke_ret rfl))))))
def Tryz.F100_s0 (c_t1 : GCommand) (u_t3 : GCUses) : Bool := (if u_t3.name = true then (if (c_t1.Kind == 12) = true then (if (decide (4096 < (c_t1.Name.size : Int))) = true then false else (if (c_t1.Kind != 12) = true then (if (!(RT.nameOk c_t1.Name)) = true then false else (Tryz.F152 c_t1)) else (Tryz.F152 c_t1))) else (if (c_t1.Kind != 12) = true then (if (!(RT.nameOk c_t1.Name)) = true then false else (Tryz.F152 c_t1)) else (Tryz.F152 c_t1))) else (Tryz.F152 c_t1))
theorem Tryz.e100_s0 (c_t1 : GCommand) (u_t3 : GCUses) (h : cmok c_t1) : Ev Tryz.c100 (.s0 c_t1 u_t3) (Tryz.F100_s0 c_t1 u_t3) := Ev.intro (U.ite_if (fun hc => U.ite_if (fun hc => U.ite_if (fun hc => U.ke_ret rfl) (fun hc => U.ite_if (fun hc => U.run_call  _ (VU.m151 _) (U.ite_if (fun hc => U.ke_ret rfl) (fun hc => U.run_call  _ (Tryz.p152 _ h) (U.ke_ret rfl)))) (fun hc => U.run_call  _ (Tryz.p152 _ h) (U.ke_ret rfl)))) (fun hc => U.ite_if (fun hc => U.run_call  _ (VU.m151 _) (U.ite_if (fun hc => U.ke_ret rfl) (fun hc => U.run_call  _ (Tryz.p152 _ h) (U.ke_ret rfl)))) (fun hc => U.run_call  _ (Tryz.p152 _ h) (U.ke_ret rfl)))) (fun hc => U.run_call  _ (Tryz.p152 _ h) (U.ke_ret rfl)))
def Tryz.F100 (c_0 : GCommand) : Bool := (if (!(Tryz.F147 c_0.Kind 1 14)) = true then false else (if (!(bareC c_0 (Tryz.F146 c_0.Kind))) = true then false else (if (!(right c_0.Data)) = true then false else (if (!(polP c_0.Opts)) = true then false else (if (Tryz.F146 c_0.Kind).seq = true then (if (!(Tryz.F147 c_0.Seq 1 2000)) = true then false else (if (Tryz.F146 c_0.Kind).key = true then (if (!(idP c_0.Key)) = true then false else (Tryz.F100_s0 c_0 (Tryz.F146 c_0.Kind))) else (Tryz.F100_s0 c_0 (Tryz.F146 c_0.Kind)))) else (if (Tryz.F146 c_0.Kind).key = true then (if (!(idP c_0.Key)) = true then false else (Tryz.F100_s0 c_0 (Tryz.F146 c_0.Kind))) else (Tryz.F100_s0 c_0 (Tryz.F146 c_0.Kind))))))))
theorem Tryz.p100 (c_0 : GCommand) (h : cmok c_0) : Tryz.m100.R c_0 (Tryz.F100 c_0) := U.run_call  _ (Tryz.p146 _) (U.run_call  _ (Tryz.p147 _ _ _) (U.ite_if (fun hc => U.ke_ret rfl) (fun hc => U.run_call  _ (ZL.m148 _ _ h) (U.ite_if (fun hc => U.ke_ret rfl) (fun hc => U.run_call  _ (VU.m119 _ h.d) (U.ite_if (fun hc => U.ke_ret rfl) (fun hc => U.run_call  _ (ZL.m149 _ h.o) (U.ite_if (fun hc => U.ke_ret rfl) (fun hc => U.ite_if (fun hc => U.run_call  _ (Tryz.p147 _ _ _) (U.ite_if (fun hc => U.ke_ret rfl) (fun hc => U.ite_if (fun hc => U.run_call  _ (ZL.m150 _ h.k) (U.ite_if (fun hc => U.ke_ret rfl) (fun hc => U.ke_jump (Tryz.e100_s0 c_0 (Tryz.F146 c_0.Kind) h)))) (fun hc => U.ke_jump (Tryz.e100_s0 c_0 (Tryz.F146 c_0.Kind) h))))) (fun hc => U.ite_if (fun hc => U.run_call  _ (ZL.m150 _ h.k) (U.ite_if (fun hc => U.ke_ret rfl) (fun hc => U.ke_jump (Tryz.e100_s0 c_0 (Tryz.F146 c_0.Kind) h)))) (fun hc => U.ke_jump (Tryz.e100_s0 c_0 (Tryz.F146 c_0.Kind) h))))))))))))
def Tryz.F121_s0 (e_t2 : GEvent) (c_t5 : GCommand) (refers_t6 : Bool) : Bool := (if (e_t2.Code == 0) = true then (if refers_t6 = true then (if (Tryz.F118 e_t2.Ref 1 2000) = true then (Tryz.F100 c_t5) else (if (!refers_t6) = true then (if (e_t2.Ref == 0) = true then (Tryz.F100 c_t5) else false) else false)) else (if (!refers_t6) = true then (if (e_t2.Ref == 0) = true then (Tryz.F100 c_t5) else false) else false)) else false)
theorem Tryz.e121_s0 (e_t2 : GEvent) (c_t5 : GCommand) (refers_t6 : Bool) (h : cmok c_t5) : Ev Tryz.c121 (.s0 e_t2 c_t5 refers_t6) (Tryz.F121_s0 e_t2 c_t5 refers_t6) := Ev.intro (U.ite_if (fun hc => U.ite_if (fun hc => U.run_call  _ (Tryz.p118 _ _ _) (U.ite_if (fun hc => U.run_call  _ (Tryz.p100 _ h) (U.ke_ret rfl)) (fun hc => U.ite_if (fun hc => U.ite_if (fun hc => U.run_call  _ (Tryz.p100 _ h) (U.ke_ret rfl)) (fun hc => U.ke_ret rfl)) (fun hc => U.ke_ret rfl)))) (fun hc => U.ite_if (fun hc => U.ite_if (fun hc => U.run_call  _ (Tryz.p100 _ h) (U.ke_ret rfl)) (fun hc => U.ke_ret rfl)) (fun hc => U.ke_ret rfl))) (fun hc => U.ke_ret rfl))
def Tryz.F121 (e_0 : GEvent) (kind_1 : Int) : Bool := (if (kind_1 == 2) = true then (Tryz.F121_s0 e_0 (GCommand.mk kind_1 e_0.Seq e_0.Name e_0.Key e_0.N e_0.Data e_0.Opts) true) else (Tryz.F121_s0 e_0 (GCommand.mk kind_1 e_0.Seq e_0.Name e_0.Key e_0.N e_0.Data e_0.Opts) (kind_1 == 4)))
theorem Tryz.p121 (e_0 : GEvent) (kind_1 : Int) (h : evok e_0) : Tryz.m121.R (e_0, kind_1) (Tryz.F121 e_0 kind_1) := U.ite_if (fun hc => U.ke_jump (Tryz.e121_s0 e_0 (GCommand.mk kind_1 e_0.Seq e_0.Name e_0.Key e_0.N e_0.Data e_0.Opts) true (⟨h.d, h.o, h.k⟩ : cmok _))) (fun hc => U.ke_jump (Tryz.e121_s0 e_0 (GCommand.mk kind_1 e_0.Seq e_0.Name e_0.Key e_0.N e_0.Data e_0.Opts) (kind_1 == 4) (⟨h.d, h.o, h.k⟩ : cmok _)))
def Tryz.F124_s0 (e_t1 : GEvent) (t6 : Int) (t47 : Bool) : Bool := (if t47 = true then (decide ((e_t1.Name.size : Int) ≤ 4096)) else (if (t6 == 33) = true then (decide ((e_t1.Name.size : Int) ≤ 64)) else (if (t6 == 17) = true then (if (RT.nameOk e_t1.Name) = true then (idP e_t1.Key) else false) else (if (t6 == 26) = true then (idP e_t1.Key) else (if (t6 == 20) = true then (numO e_t1.Key).2 else true)))))
theorem Tryz.e124_s0 (e_t1 : GEvent) (t6 : Int) (t47 : Bool) (h : evok e_t1) (hn : t6 = 20 → ∃ y, Tryz.m187.R e_t1.Key y) : Ev Tryz.c124 (.s0 e_t1 t6 t47) (Tryz.F124_s0 e_t1 t6 t47) := Ev.intro (U.ite_if (fun hc => U.ke_ret rfl) (fun hc => U.ite_if (fun hc => U.ke_ret rfl) (fun hc => U.ite_if (fun hc => U.run_call  _ (VU.m151 _) (U.ite_if (fun hc => U.run_call  _ (ZL.m185 _ h.k) (U.ke_ret rfl)) (fun hc => U.ke_ret rfl))) (fun hc => U.ite_if (fun hc => U.run_call  _ (ZL.m185 _ h.k) (U.ke_ret rfl)) (fun hc => U.ite_if (fun hc => U.run_call  _ (numO_ok (hn (eq_of_beq hc))) (U.ke_ret rfl)) (fun hc => U.ke_ret rfl))))))
def Tryz.F124 (e_0 : GEvent) : Bool := (if (e_0.Kind == 1) = true then (if (RT.nameOk e_0.Name) = true then (if (idP e_0.Key) = true then (if (Tryz.F118 e_0.N 0 4294967295) = true then (inp e_0.Data) else false) else false) else false) else (if (e_0.Kind == 2) = true then (decide (1 ≤ e_0.N)) else (if (e_0.Kind == 5) = true then (Tryz.F118 e_0.Code 1 30) else (if (e_0.Kind == 8) = true then (Tryz.F118 e_0.N 1 1000) else (if (e_0.Kind == 11) = true then (Tryz.F118 e_0.Code 1 4) else (if (e_0.Kind == 10) = true then (Tryz.F124_s0 e_0 e_0.Kind true) else (if (e_0.Kind == 22) = true then (Tryz.F124_s0 e_0 e_0.Kind true) else (Tryz.F124_s0 e_0 e_0.Kind (e_0.Kind == 25)))))))))
theorem Tryz.p124 (e_0 : GEvent) (h : evok e_0) (hn : e_0.Kind = 20 → ∃ y, Tryz.m187.R e_0.Key y) : Tryz.m124.R e_0 (Tryz.F124 e_0) := U.ite_if (fun hc => U.run_call  _ (VU.m151 _) (U.ite_if (fun hc => U.run_call  _ (ZL.m185 _ h.k) (U.ite_if (fun hc => U.run_call  _ (Tryz.p118 _ _ _) (U.ite_if (fun hc => U.run_call  _ (ZL.m186 _ h.d) (U.ke_ret rfl)) (fun hc => U.ke_ret rfl))) (fun hc => U.ke_ret rfl))) (fun hc => U.ke_ret rfl))) (fun hc => U.ite_if (fun hc => U.ke_ret rfl) (fun hc => U.ite_if (fun hc => U.run_call  _ (Tryz.p118 _ _ _) (U.ke_ret rfl)) (fun hc => U.ite_if (fun hc => U.run_call  _ (Tryz.p118 _ _ _) (U.ke_ret rfl)) (fun hc => U.ite_if (fun hc => U.run_call  _ (Tryz.p118 _ _ _) (U.ke_ret rfl)) (fun hc => U.ite_if (fun hc => U.ke_jump (Tryz.e124_s0 e_0 e_0.Kind true h hn)) (fun hc => U.ite_if (fun hc => U.ke_jump (Tryz.e124_s0 e_0 e_0.Kind true h hn)) (fun hc => U.ke_jump (Tryz.e124_s0 e_0 e_0.Kind (e_0.Kind == 25) h hn))))))))
def Tryz.F61 (e_0 : GEvent) : Bool := (if (!(Tryz.F118 e_0.Kind 1 35)) = true then false else (if (!(Tryz.F118 e_0.ID 0 2000)) = true then false else (if (!(Tryz.F118 e_0.Time 0 1099511627776)) = true then false else (if (!(right e_0.Data)) = true then false else (if ((Tryz.F120 e_0.Kind) != 0) = true then (Tryz.F121 e_0 (Tryz.F120 e_0.Kind)) else (if (!(emptyE (Tryz.F122 e_0.Kind) e_0)) = true then false else (if (Tryz.F122 e_0.Kind).seq = true then (if (!(Tryz.F118 e_0.Seq 1 2000)) = true then false else (if (Tryz.F122 e_0.Kind).ref = true then (if (!(Tryz.F118 e_0.Ref 1 2000)) = true then false else (Tryz.F124 e_0)) else (Tryz.F124 e_0))) else (if (Tryz.F122 e_0.Kind).ref = true then (if (!(Tryz.F118 e_0.Ref 1 2000)) = true then false else (Tryz.F124 e_0)) else (Tryz.F124 e_0)))))))))
theorem Tryz.p61 (e_0 : GEvent) (h : evok e_0) (hn : e_0.Kind = 20 → ∃ y, Tryz.m187.R e_0.Key y) : Tryz.m61.R e_0 (Tryz.F61 e_0) := U.run_call  _ (Tryz.p118 _ _ _) (U.ite_if (fun hc => U.ke_ret rfl) (fun hc => U.run_call  _ (Tryz.p118 _ _ _) (U.ite_if (fun hc => U.ke_ret rfl) (fun hc => U.run_call  _ (Tryz.p118 _ _ _) (U.ite_if (fun hc => U.ke_ret rfl) (fun hc => U.run_call  _ (VU.m119 _ h.d) (U.ite_if (fun hc => U.ke_ret rfl) (fun hc => U.run_call  _ (Tryz.p120 _) (U.ite_if (fun hc => U.run_call  _ (Tryz.p121 _ _ h) (U.ke_ret rfl)) (fun hc => U.run_call  _ (Tryz.p122 _) (U.run_call  _ (ZL.m123 _ _ h) (U.ite_if (fun hc => U.ke_ret rfl) (fun hc => U.ite_if (fun hc => U.run_call  _ (Tryz.p118 _ _ _) (U.ite_if (fun hc => U.ke_ret rfl) (fun hc => U.ite_if (fun hc => U.run_call  _ (Tryz.p118 _ _ _) (U.ite_if (fun hc => U.ke_ret rfl) (fun hc => U.run_call  _ (Tryz.p124 _ h hn) (U.ke_ret rfl)))) (fun hc => U.run_call  _ (Tryz.p124 _ h hn) (U.ke_ret rfl))))) (fun hc => U.ite_if (fun hc => U.run_call  _ (Tryz.p118 _ _ _) (U.ite_if (fun hc => U.ke_ret rfl) (fun hc => U.run_call  _ (Tryz.p124 _ h hn) (U.ke_ret rfl)))) (fun hc => U.run_call  _ (Tryz.p124 _ h hn) (U.ke_ret rfl))))))))))))))))
end Go.Proofs
end
noncomputable section
set_option maxRecDepth 4000
namespace Go.Proofs
open Go Go.AV VU ZE ZP ZR ZL
attribute [local irreducible] Runs
namespace ZN
def d1 : GVal := GVal.mk 4 0 (⟨#[]⟩ : ByteArray) [vz, (GVal.mk 4 0 (⟨#[]⟩ : ByteArray) [] [])] []
def mp : GVal := GVal.mk 5 0 (⟨#[]⟩ : ByteArray) [] []
def e1 : GEvent := GEvent.mk 1 1 0 0 0 0 0 (⟨#[109, 97, 105, 110]⟩ : ByteArray) (⟨#[113]⟩ : ByteArray) d1 oz
def e2 : GEvent := GEvent.mk 2 2 0 0 0 1 0 (⟨#[]⟩ : ByteArray) (⟨#[]⟩ : ByteArray) vz oz
def e3 : GEvent := GEvent.mk 3 3 0 0 2 0 0 (⟨#[]⟩ : ByteArray) (⟨#[]⟩ : ByteArray) vz oz
def e4 : GEvent := GEvent.mk 4 4 0 0 3 0 0 (⟨#[]⟩ : ByteArray) (⟨#[]⟩ : ByteArray) vz oz
def e5 : GEvent := GEvent.mk 5 14 10 1 0 5 0 (⟨#[]⟩ : ByteArray) (⟨#[]⟩ : ByteArray) vz oz
def e6 : GEvent := GEvent.mk 6 15 15 1 5 0 0 (⟨#[]⟩ : ByteArray) (⟨#[]⟩ : ByteArray) vz oz
def e7 : GEvent := GEvent.mk 6 15 15 1 4 0 0 (⟨#[]⟩ : ByteArray) (⟨#[]⟩ : ByteArray) vz oz
def e8 : GEvent := GEvent.mk 6 17 15 0 0 0 0 (⟨#[115]⟩ : ByteArray) (⟨#[107]⟩ : ByteArray) vz oz
def e9 : GEvent := GEvent.mk 7 17 15 0 0 0 0 (⟨#[115]⟩ : ByteArray) (⟨#[107]⟩ : ByteArray) vz oz
theorem em2 (u : GEUses) (e : GEvent) (hd : e.Data = vz) (ho : e.Opts = oz) : emptyE u e = ((u.seq || e.Seq == 0) && ((u.ref || e.Ref == 0) && ((u.n || e.N == 0) && ((u.code || e.Code == 0) && ((u.name || decide (e.Name = ⟨#[]⟩)) && ((u.key || decide (e.Key = ⟨#[]⟩)) && true)))))) := by
  unfold emptyE; rw [hd, ho, decide_eq_true rfl, decide_eq_true rfl, Bool.or_true, Bool.and_true, strEq_iff, strEq_iff]
theorem bc2 (c : GCommand) (u : GCUses) (hd : c.Data = vz) (ho : c.Opts = oz) : bareC c u = ((u.seq || c.Seq == 0) && ((u.name || decide (c.Name = ⟨#[]⟩)) && ((u.key || decide (c.Key = ⟨#[]⟩)) && ((u.n || c.N == 0) && true)))) := by
  unfold bareC; rw [hd, ho, decide_eq_true rfl, decide_eq_true rfl, Bool.or_true, Bool.or_true, strEq_iff, strEq_iff]; rfl
theorem pl2 : polP oz = true := by unfold polP; rw [strEq_iff]; rfl
theorem f1 : Tryz.F61 e1 = true := by rfl
theorem f2 : Tryz.F61 e2 = true := by unfold Tryz.F61; rw [em2 _ _ rfl rfl]; rfl
theorem f3 : Tryz.F61 e3 = true := by unfold Tryz.F61; rw [em2 _ _ rfl rfl]; rfl
theorem f4 : Tryz.F61 e4 = true := by unfold Tryz.F61; rw [em2 _ _ rfl rfl]; rfl
theorem f5 : Tryz.F61 e5 = true := by unfold Tryz.F61 Tryz.F121 Tryz.F121_s0 Tryz.F100; rw [bc2 _ _ rfl rfl, show polP e5.Opts = true from pl2]; rfl
theorem f6 : Tryz.F61 e6 = true := by unfold Tryz.F61; rw [em2 _ _ rfl rfl]; rfl
theorem f7 : Tryz.F61 e7 = true := by unfold Tryz.F61; rw [em2 _ _ rfl rfl]; rfl
theorem f8 : Tryz.F61 e8 = true := by unfold Tryz.F61; rw [em2 _ _ rfl rfl]; rfl
theorem f9 : Tryz.F61 e9 = true := by unfold Tryz.F61; rw [em2 _ _ rfl rfl]; rfl
theorem d1_ok : d1.ok := ⟨by decide, by decide, by decide, ⟨⟨vz_ok, ⟨by decide, by decide, by decide, ⟨trivial, by decide⟩, ⟨by simp, by decide⟩, trivial⟩, trivial⟩, by decide⟩, ⟨by simp, by decide⟩, trivial⟩
theorem mp_ok : mp.ok := ⟨by decide, by decide, by decide, ⟨trivial, by decide⟩, ⟨by simp, by decide⟩, trivial⟩
theorem oz_ok : fatOk oz := Nat.zero_le _
theorem r1 : Tryz.m61.R e1 true := f1 ▸ Tryz.p61 e1 ⟨d1_ok, oz_ok, by decide⟩ (fun h => absurd h (by decide))
theorem r2 : Tryz.m61.R e2 true := f2 ▸ Tryz.p61 e2 ⟨vz_ok, oz_ok, by decide⟩ (fun h => absurd h (by decide))
theorem r3 : Tryz.m61.R e3 true := f3 ▸ Tryz.p61 e3 ⟨vz_ok, oz_ok, by decide⟩ (fun h => absurd h (by decide))
theorem r4 : Tryz.m61.R e4 true := f4 ▸ Tryz.p61 e4 ⟨vz_ok, oz_ok, by decide⟩ (fun h => absurd h (by decide))
theorem r5 : Tryz.m61.R e5 true := f5 ▸ Tryz.p61 e5 ⟨vz_ok, oz_ok, by decide⟩ (fun h => absurd h (by decide))
theorem r6 : Tryz.m61.R e6 true := f6 ▸ Tryz.p61 e6 ⟨vz_ok, oz_ok, by decide⟩ (fun h => absurd h (by decide))
theorem r7 : Tryz.m61.R e7 true := f7 ▸ Tryz.p61 e7 ⟨vz_ok, oz_ok, by decide⟩ (fun h => absurd h (by decide))
theorem r8 : Tryz.m61.R e8 true := f8 ▸ Tryz.p61 e8 ⟨vz_ok, oz_ok, by decide⟩ (fun h => absurd h (by decide))
theorem r9 : Tryz.m61.R e9 true := f9 ▸ Tryz.p61 e9 ⟨vz_ok, oz_ok, by decide⟩ (fun h => absurd h (by decide))
def st (n task id att seq : Int) (ts : List GTimer) (rs : List ByteArray) : GPending := GPending.mk n 0 task id att seq (⟨#[109, 97, 105, 110]⟩ : ByteArray) d1 mp false [] ts [] [] [] rs
theorem st_ok (n task id att seq : Int) (ts : List GTimer) (rs : List ByteArray) (h1 : ts.length ≤ 1) (h2 : rs.length ≤ 1) : pokc 1 (st n task id att seq ts rs) :=
  ⟨⟨d1_ok, mp_ok, by simp [st], Nat.zero_le _, h1, Nat.zero_le _, Nat.zero_le _, Nat.zero_le _, h2⟩, by simp [st], by decide⟩
def k1 : ByteArray := ⟨#[107]⟩
def t1 : GTimer := GTimer.mk 1 5 15
def p1 := st 2 0 0 0 0 [] []
def p2 := st 3 1 2 1 0 [] []
def p3 := st 4 2 3 1 0 [] []
def p4 := st 5 0 0 0 0 [] []
def p5 := st 6 0 0 0 1 [t1] []
def p6 := st 7 0 0 0 1 [] []
def p8 := st 7 0 0 0 1 [t1] [k1]
theorem s60 : Tryz.m60.R e1 (p1, 0) := T.done (T.ff rfl (T.call _ r1 (T.ff rfl (T.ff rfl (T.call _ (m117 _ d1_ok) (T.ret rfl))))))
theorem ap {n : Nat} {p q : GPending} {e : GEvent} {c : Int} (hp : pokc n p) (h1 : (e.Kind == 1) = false) (hr : Tryz.m61.R e true) (h2 : (e.ID != p.Next) = false) (h3 : (p.Status != 0) = false)
    (hs : Tryz.m63.R (GPending.mk (IntKind.i64.wrap (p.Next + 1)) p.Status p.Task p.TaskID p.Attempt p.Seq p.Name p.Input p.Attrs p.Cancel p.Acts p.Timers p.Kids p.Sends p.Updates p.Requests, e) (c, q)) : Tryz.m17.R (p, e) (if (c != 0) = true then (pz, c) else (q, 0)) := by
  refine T.done (T.ff h1 (T.call _ hr (T.jump (T.ev (T.ff rfl (T.ff h2 (T.ff h3 (T.call _ (m62 n p hp) (T.call _ hs ?_)))))))))
  by_cases hc : (c != 0) = true
  · exact T.tt hc (T.ret (by rw [if_pos hc]; rfl))
  · exact T.ff (by simpa using hc) (T.ret (by rw [if_neg hc]))
theorem a2 : Tryz.m17.R (p1, e2) (p2, 0) := by
  refine ap (q := p2) (c := 0) (st_ok _ _ _ _ _ _ _ (by decide) (by decide)) rfl r2 rfl rfl (T.done ?_)
  refine T.tt rfl (T.jump (T.ev (T.tt rfl (T.call (0, p2) (T.done (T.tt rfl (T.ff rfl (T.ret rfl)))) (T.ret rfl)))))
theorem a3 : Tryz.m17.R (p2, e3) (p3, 0) := by
  refine ap (q := p3) (c := 0) (st_ok _ _ _ _ _ _ _ (by decide) (by decide)) rfl r3 rfl rfl (T.done ?_)
  refine T.ff rfl (T.tt rfl (T.jump (T.ev (T.tt rfl (T.call (0, p3) (T.done (T.ff rfl (T.tt rfl (T.ff rfl (T.ff rfl (T.ret rfl)))))) (T.ret rfl))))))
theorem a4 : Tryz.m17.R (p3, e4) (p4, 0) := by
  refine ap (q := p4) (c := 0) (st_ok _ _ _ _ _ _ _ (by decide) (by decide)) rfl r4 rfl rfl (T.done ?_)
  refine T.ff rfl (T.ff rfl (T.tt rfl (T.jump (T.ev (T.tt rfl (T.call (0, p4) (T.done (T.ff rfl (T.ff rfl (T.ff rfl (T.ff rfl (T.tt rfl (T.ret rfl))))))) (T.ret rfl)))))))
theorem a5 : Tryz.m17.R (p4, e5) (p5, 0) := by
  refine ap (q := p5) (c := 0) (st_ok _ _ _ _ _ _ _ (by decide) (by decide)) rfl r5 rfl rfl (T.done ?_)
  repeat (first | refine T.tt rfl ?_ | refine T.ff rfl ?_ | refine T.len ?_ | refine T.bld ?_ | refine T.frz ?_ | refine T.jump (T.ev ?_))
  refine T.call (0, p5) (T.done ?_) (T.ret rfl)
  refine T.ff rfl (T.ff rfl (T.tt rfl (T.bld (T.app (by decide) (T.ret rfl)))))
theorem m189 (l : List GAct) (n : Nat) (h : n < l.length) (hl : l.length * 376 ≤ 140737488355328) : Tryz.m189.R (l, (n : Int)) (l.eraseIdx n) := by
  refine U.run_call _ (m125 l hl) (U.run_call (l.eraseIdx n) ⟨Int.natCast_nonneg n, U.wsucc h (by omega), ?_, ?_⟩ (U.run_ret rfl))
  · simpa using h
  · simp
theorem m191 (l : List GTimer) (n : Nat) (h : n < l.length) (hl : l.length * 24 ≤ 140737488355328) : Tryz.m191.R (l, (n : Int)) (l.eraseIdx n) := by
  refine U.run_call _ (m126 l hl) (U.run_call (l.eraseIdx n) ⟨Int.natCast_nonneg n, U.wsucc h (by omega), ?_, ?_⟩ (U.run_ret rfl))
  · simpa using h
  · simp
theorem m193 (l : List GSend) (n : Nat) (h : n < l.length) (hl : l.length * 48 ≤ 140737488355328) : Tryz.m193.R (l, (n : Int)) (l.eraseIdx n) := by
  refine U.run_call _ (m128 l hl) (U.run_call (l.eraseIdx n) ⟨Int.natCast_nonneg n, U.wsucc h (by omega), ?_, ?_⟩ (U.run_ret rfl))
  · simpa using h
  · simp
theorem m195 (l : List GKid) (n : Nat) (h : n < l.length) (hl : l.length * 72 ≤ 140737488355328) : Tryz.m195.R (l, (n : Int)) (l.eraseIdx n) := by
  refine U.run_call _ (m127 l hl) (U.run_call (l.eraseIdx n) ⟨Int.natCast_nonneg n, U.wsucc h (by omega), ?_, ?_⟩ (U.run_ret rfl))
  · simpa using h
  · simp
theorem t190 (t : GTimer) (e : GEvent) : Tryz.m190.R (t, e) ((t.Seq == e.Seq) && (t.Event == e.Ref)) := U.and_t fun _ => U.ke_ret rfl
theorem a6 : Tryz.m17.R (p5, e6) (p6, 0) := by
  refine ap (q := p6) (c := 0) (st_ok _ _ _ _ _ _ _ (by decide) (by decide)) rfl r6 rfl rfl (T.done ?_)
  repeat (first | refine T.tt rfl ?_ | refine T.ff rfl ?_ | refine T.len ?_ | refine T.bld ?_ | refine T.frz ?_ | refine T.jump (T.ev ?_))
  refine T.call (0, p6) (T.done ?_) (T.ret rfl)
  refine T.tt rfl (T.jump (T.ev (T.tt rfl (T.call 0 (ixT [t1] _ (fun t => (t.Seq == e6.Seq) && (t.Event == e6.Ref)) (fun t _ => t190 t e6) (by decide)) (T.ff rfl (T.call [] (m191 [t1] 0 (by decide) (by decide)) (T.ret rfl)))))))
theorem a7 : Tryz.m17.R (p5, e7) (pz, 15) := by
  refine ap (q := st 7 0 0 0 1 [t1] []) (c := 15) (st_ok _ _ _ _ _ _ _ (by decide) (by decide)) rfl r7 rfl rfl (T.done ?_)
  repeat (first | refine T.tt rfl ?_ | refine T.ff rfl ?_ | refine T.len ?_ | refine T.bld ?_ | refine T.frz ?_ | refine T.jump (T.ev ?_))
  refine T.call (15, st 7 0 0 0 1 [t1] []) (T.done ?_) (T.ret rfl)
  refine T.tt rfl (T.jump (T.ev (T.tt rfl (T.call (-1) (ixT [t1] _ (fun t => (t.Seq == e7.Seq) && (t.Event == e7.Ref)) (fun t _ => t190 t e7) (by decide)) (T.tt rfl (T.ret rfl))))))
theorem kk : strEq k1 k1 = true := by rw [strEq_iff]; rfl
theorem a8 : Tryz.m17.R (p5, e8) (p8, 0) := by
  refine ap (q := p8) (c := 0) (st_ok _ _ _ _ _ _ _ (by decide) (by decide)) rfl r8 rfl rfl (T.done ?_)
  repeat (first | refine T.tt rfl ?_ | refine T.ff rfl ?_ | refine T.len ?_ | refine T.bld ?_ | refine T.frz ?_ | refine T.jump (T.ev ?_))
  refine T.call false (m81 [] k1 (by decide)) (T.ff rfl (T.bld (T.app (by decide) (T.ff rfl (T.ret rfl)))))
theorem a9 : Tryz.m17.R (p8, e9) (pz, 9) := by
  refine ap (q := st 8 0 0 0 1 [t1] [k1]) (c := 9) (st_ok _ _ _ _ _ _ _ (by decide) (by decide)) rfl r9 rfl rfl (T.done ?_)
  repeat (first | refine T.tt rfl ?_ | refine T.ff rfl ?_ | refine T.len ?_ | refine T.bld ?_ | refine T.frz ?_ | refine T.jump (T.ev ?_))
  have hk : ([k1].any fun a => strEq k1 a) = true := by rw [List.any_cons, kk, Bool.true_or]
  refine T.call true (hk ▸ m81 [k1] k1 (by decide)) (T.tt rfl (T.ret rfl))
theorem s16 : Tryz.m16.R [e1, e2, e3, e4, e5] (p5, 0) := by
  refine T.done (T.len (T.ff rfl (T.elemP (i := 0) ⟨by decide, by decide⟩ (T.call (p1, 0) s60 (T.cut ⟨by decide, by decide, by decide⟩ (T.len (T.jump (T.ev ?_))))))))
  refine T.tt rfl (T.elemP ⟨by decide, by decide⟩ (T.ff rfl (T.call (p2, 0) a2 ?_)))
  repeat (first | refine T.tt rfl ?_ | refine T.ff rfl ?_ | refine T.len ?_ | refine T.bld ?_ | refine T.frz ?_ | refine T.jump (T.ev ?_))
  refine T.elemP ⟨by decide, by decide⟩ (T.ff rfl (T.call (p3, 0) a3 ?_))
  repeat (first | refine T.tt rfl ?_ | refine T.ff rfl ?_ | refine T.len ?_ | refine T.bld ?_ | refine T.frz ?_ | refine T.jump (T.ev ?_))
  refine T.elemP ⟨by decide, by decide⟩ (T.ff rfl (T.call (p4, 0) a4 ?_))
  repeat (first | refine T.tt rfl ?_ | refine T.ff rfl ?_ | refine T.len ?_ | refine T.bld ?_ | refine T.frz ?_ | refine T.jump (T.ev ?_))
  refine T.elemP ⟨by decide, by decide⟩ (T.ff rfl (T.call (p5, 0) a5 ?_))
  repeat (first | refine T.tt rfl ?_ | refine T.ff rfl ?_ | refine T.len ?_ | refine T.bld ?_ | refine T.frz ?_ | refine T.jump (T.ev ?_))
  exact T.ret rfl
theorem m15 : Tryz.m15.R () true := by
  have hk : knows p8 k1 = true := by unfold knows; show ([k1].any fun a => strEq k1 a) = true; rw [List.any_cons, kk, Bool.true_or]
  refine T.done (T.call [e1, e2, e3, e4, e5] (T.done (T.bld (T.bld (T.ret rfl)))) (T.call (p5, 0) s16 (T.call (p6, 0) a6 (T.call (pz, 15) a7 (T.call (p8, 0) a8 (T.call (pz, 9) a9 (T.call (t1, true) (m21 1 p5 1 (st_ok _ _ _ _ _ _ _ (by decide) (by decide))) ?_)))))))
  refine T.tt rfl (T.tt rfl (T.tt rfl (T.tt rfl (T.tt rfl (T.tt rfl (T.tt rfl (T.len (T.tt rfl (T.tt rfl (T.tt rfl (T.call true (hk ▸ m34 1 p8 k1 (st_ok _ _ _ _ _ _ _ (by decide) (by decide))) (T.tt rfl (T.ret rfl)))))))))))))
end ZN
end Go.Proofs
end
noncomputable section
set_option maxRecDepth 4000
namespace Go.Proofs
open Go Go.AV VU ZE ZP ZR ZL ZS ZK
attribute [local irreducible] Runs
namespace ZO
theorem strEq_comm (a b : ByteArray) : strEq a b = strEq b a := by rw [strEq_iff, strEq_iff, Bool.eq_iff_iff, decide_eq_true_eq, decide_eq_true_eq]; exact eq_comm
theorem knows_eq (p : GPending) (id : ByteArray) : knowsR p id = knows p id := by unfold knowsR knows; congr 1; funext a; exact strEq_comm _ _
theorem repl1_len (f : GAct → Bool) (a : GAct) (l : List GAct) : (repl1 f a l).length = l.length := by
  induction l with
  | nil => rfl
  | cons x r ih => unfold repl1; split <;> simp [ih]
theorem repl1_mem (f : GAct → Bool) (a : GAct) (l : List GAct) : ∀ x ∈ repl1 f a l, x = a ∨ x ∈ l := by
  induction l with
  | nil => intro x hx; simp [repl1] at hx
  | cons z r ih =>
    intro x hx; unfold repl1 at hx; split at hx
    · simp at hx; rcases hx with hx | hx <;> simp [hx]
    · simp at hx; rcases hx with hx | hx
      · simp [hx]
      · rcases ih x hx with h | h <;> simp [h]
theorem withActs_ok {n : Nat} {p : GPending} (h : pokc n p) {l : List GAct} (h1 : l.length ≤ n) (h2 : ∀ x ∈ l, aokc x) : pokc n (withActs p l) :=
  ⟨⟨h.k.i, h.k.t, fun x hx => (h2 x hx).k, h1, h.k.nt, h.k.nk, h.k.ns, h.k.nu, h.k.nr⟩, h2, h.n⟩
theorem setAct_ok {n : Nat} {p : GPending} (h : pokc n p) {a : GAct} (ha : aokc a) : pokc n (setAct p a).1 := by
  unfold setAct
  split
  · exact withActs_ok h (by rw [repl1_len]; exact h.k.na) (fun x hx => by rcases repl1_mem _ _ _ x hx with e | e; exact e ▸ ha; exact h.f x e)
  · exact (pz_x h.n).c
theorem bare_ok {n : Nat} {p : GPending} (h : pokc n p) : pokc n (bare p) :=
  withActs_ok h (by rw [List.length_map]; exact h.k.na) (fun x hx => by
    obtain ⟨y, hy, rfl⟩ := List.mem_map.1 hx
    exact ⟨⟨(h.f y hy).k.d, (h.f y hy).k.o, vz_ok⟩, (h.f y hy).f⟩)
theorem aokc_of {a : GAct} (ha : a.ok) : aokc a := by
  obtain ⟨_, _, _, hd, ⟨_, _, _, _, _, _, _, _, _, hf, _⟩, _, _, _, _, _, _, _, _, he, _⟩ := ha
  have h := reach_eq
  exact ⟨⟨hd, by show a.Opts.Fatal.length ≤ _; have := hf.2; omega, he⟩, hf.2⟩
theorem fat_of {o : GPolicy} (ho : o.ok) : fatOk o := by
  obtain ⟨_, _, _, _, _, _, _, _, _, hf, _⟩ := ho
  have h := reach_eq
  show o.Fatal.length ≤ _; have := hf.2; omega
theorem m6 (l : List GEvent) (q : Int) (id : ByteArray) (a : GAct) (hl : ∀ e ∈ l, e.ok) (hn : l.length ≤ 4611686018427387904) (ha : a.ok) : Tryz.m6.R (l, q, id, a) true := by
  have hac := aokc_of ha
  have lv : ∀ {cert : Tryz.J6 → Cert Tryz.prog Tryz.J6 Bool}, T.T cert (.call Tryz.m15 () fun r => .ret r) (fun y => y = true) := T.call true ZN.m15 (T.ret rfl)
  refine T.done (T.call _ (m14 l hn (fun e he => ⟨(hl e he).2.2.2.2.2.2.2.2.2.1, fat_of (hl e he).2.2.2.2.2.2.2.2.2.2.1⟩)) (T.ite (fun _ => lv) (fun h1 => ?_)))
  have hs : sml l = true := by cases h : sml l; rw [h] at h1; cases h1; rfl
  obtain ⟨hlen, hsm⟩ := sml_x hs
  refine T.call _ (m25 _ hac.k.d hac.k.o) (T.ite (fun _ => lv) (fun _ => T.call _ (m25 _ hac.k.e (Nat.zero_le _)) (T.ite (fun _ => lv) (fun _ => T.ite (fun _ => lv) (fun _ => ?_)))))
  refine T.callx (x28 l (fun e he => sm_x (hl e he) (hsm e he)) (by omega)) fun y hy => T.ite (fun _ => lv) (fun _ => ?_)
  obtain ⟨p, err⟩ := y
  have hp : pokc 1000 p := hy.c
  have hb : ∀ b : Bool, (b != b) = false := by intro b; cases b <;> rfl
  have hq := setAct_ok hp hac
  have big1 : (1000 : Nat) ≤ 4611686018427387904 := by decide
  refine T.call _ (m20 1000 p q hp) (T.call _ (m29 1000 p q hp) (T.call _ (m21 1000 p q hp) (T.call _ (m30 1000 p q hp) (T.call _ (m22 1000 p q hp) (T.call _ (m31 1000 p q hp) (T.call _ (m23 1000 p q hp) (T.call _ (m32 1000 p q hp) (T.call _ (m33 _ _ (actOf_ok hp q).k) ?_))))))))
  refine T.ff (by simp) (T.ff (hb _) (T.ff (by simp) (T.ff (hb _) (T.ff (by simp [strEq_refl]) (T.ff (hb _) (T.ff (by simp [strEq_refl]) (T.ff (hb _) ?_)))))))
  refine T.call _ (m34 1000 p id hp) (T.call _ (ZR.m35 1000 p id hp) (T.ff (by rw [knows_eq]; exact hb _) (T.call _ (m26 1000 p a hp hac) (T.call _ (m36 1000 p a hp) ?_))))
  refine T.frz (T.frz (T.frz (T.frz (T.frz (T.frz (T.frz (T.frz (T.frz (T.frz (T.frz (T.jump (T.ev ?_))))))))))))
  refine T.tt (by simp) (T.call _ (m18 1000 _ _ hq.k big1) (T.tt (by simp) (T.call _ (m24 1000 _ hq) (T.call _ (m37 1000 _ hq) (T.call _ (m18 1000 _ _ (bare_ok hq).k big1) (T.tt (by simp) ?_))))))
  refine T.call _ (m38 1000 _ _ hp.k big1) (T.call _ (m18 1000 _ _ hp.k big1) (T.tt (by simp) (T.call _ (m38 1000 _ _ hq.k big1) (T.tt (by simp) lv))))
end ZO
end Go.Proofs
end
