/- Texts AvZg AvZi AvZj AvZk. -/
import Derived.Test.YtlgnflbekdldnaaGreatDoorAvK39
set_option linter.unusedVariables false
set_option linter.unusedSimpArgs false
set_option linter.unusedSectionVars false
noncomputable section
set_option maxRecDepth 4000
namespace Go.Proofs
open Go Go.AV VU ZE ZP ZR
attribute [local irreducible] Runs
namespace ZR
structure evok (e : GEvent) : Prop where
  d : e.Data.ok
  o : fatOk e.Opts
  k : e.Key.size ≤ 4611686018427387904
structure cmok (c : GCommand) : Prop where
  d : c.Data.ok
  o : fatOk c.Opts
  k : c.Key.size ≤ 4611686018427387904
end ZR
def Tryz.F157_s4 (c_t1 : GCommand) (t2 : GCommand) : GCommand := (if (c_t1.Kind == 1) = true then (GCommand.mk c_t1.Kind c_t1.Seq c_t1.Name c_t1.Key c_t1.N c_t1.Data zO) else c_t1)
theorem Tryz.e157_s4 (c_t1 : GCommand) (t2 : GCommand) : Ev Tryz.c157 (.s4 c_t1 t2) (Tryz.F157_s4 c_t1 t2) := Ev.intro (U.ite_if (fun hc => U.ke_ret rfl) (fun hc => U.ke_ret rfl))
def Tryz.F157_s3 (c_t1 : GCommand) (t2 : GCommand) : GCommand := (if (c_t1.Kind == 2) = true then (Tryz.F157_s4 c_t1 (GCommand.mk t2.Kind t2.Seq t2.Name t2.Key t2.N (nV t2.Data) (GPolicy.mk t2.Opts.Queue t2.Opts.ToStart t2.Opts.ToClose t2.Opts.Total t2.Opts.Beat t2.Opts.First t2.Opts.Coef t2.Opts.Most t2.Opts.Attempts []))) else (if (c_t1.Kind == 3) = true then (Tryz.F157_s4 c_t1 (GCommand.mk t2.Kind t2.Seq t2.Name t2.Key t2.N (nV t2.Data) (GPolicy.mk t2.Opts.Queue t2.Opts.ToStart t2.Opts.ToClose t2.Opts.Total t2.Opts.Beat t2.Opts.First t2.Opts.Coef t2.Opts.Most t2.Opts.Attempts []))) else (if (c_t1.Kind == 4) = true then (Tryz.F157_s4 c_t1 (GCommand.mk t2.Kind t2.Seq t2.Name t2.Key t2.N (nV t2.Data) (GPolicy.mk t2.Opts.Queue t2.Opts.ToStart t2.Opts.ToClose t2.Opts.Total t2.Opts.Beat t2.Opts.First t2.Opts.Coef t2.Opts.Most t2.Opts.Attempts []))) else (Tryz.F157_s4 (GCommand.mk c_t1.Kind c_t1.Seq c_t1.Name c_t1.Key c_t1.N zV c_t1.Opts) (GCommand.mk t2.Kind t2.Seq t2.Name t2.Key t2.N (nV t2.Data) (GPolicy.mk t2.Opts.Queue t2.Opts.ToStart t2.Opts.ToClose t2.Opts.Total t2.Opts.Beat t2.Opts.First t2.Opts.Coef t2.Opts.Most t2.Opts.Attempts []))))))
theorem Tryz.e157_s3 (c_t1 : GCommand) (t2 : GCommand) : Ev Tryz.c157 (.s3 c_t1 t2) (Tryz.F157_s3 c_t1 t2) := Ev.intro (U.ite_if (fun hc => U.ke_jump (Tryz.e157_s4 c_t1 (GCommand.mk t2.Kind t2.Seq t2.Name t2.Key t2.N (nV t2.Data) (GPolicy.mk t2.Opts.Queue t2.Opts.ToStart t2.Opts.ToClose t2.Opts.Total t2.Opts.Beat t2.Opts.First t2.Opts.Coef t2.Opts.Most t2.Opts.Attempts [])))) (fun hc => U.ite_if (fun hc => U.ke_jump (Tryz.e157_s4 c_t1 (GCommand.mk t2.Kind t2.Seq t2.Name t2.Key t2.N (nV t2.Data) (GPolicy.mk t2.Opts.Queue t2.Opts.ToStart t2.Opts.ToClose t2.Opts.Total t2.Opts.Beat t2.Opts.First t2.Opts.Coef t2.Opts.Most t2.Opts.Attempts [])))) (fun hc => U.ite_if (fun hc => U.ke_jump (Tryz.e157_s4 c_t1 (GCommand.mk t2.Kind t2.Seq t2.Name t2.Key t2.N (nV t2.Data) (GPolicy.mk t2.Opts.Queue t2.Opts.ToStart t2.Opts.ToClose t2.Opts.Total t2.Opts.Beat t2.Opts.First t2.Opts.Coef t2.Opts.Most t2.Opts.Attempts [])))) (fun hc => U.run_adB (U.run_frz (U.run_adB (U.run_frz (U.ke_jump (Tryz.e157_s4 (GCommand.mk c_t1.Kind c_t1.Seq c_t1.Name c_t1.Key c_t1.N zV c_t1.Opts) (GCommand.mk t2.Kind t2.Seq t2.Name t2.Key t2.N (nV t2.Data) (GPolicy.mk t2.Opts.Queue t2.Opts.ToStart t2.Opts.ToClose t2.Opts.Total t2.Opts.Beat t2.Opts.First t2.Opts.Coef t2.Opts.Most t2.Opts.Attempts [])))))))))))
def Tryz.F157_s2 (c_t1 : GCommand) (t2 : GCommand) : GCommand := (if (c_t1.Kind == 3) = true then (Tryz.F157_s3 (GCommand.mk c_t1.Kind c_t1.Seq c_t1.Name c_t1.Key 0 c_t1.Data c_t1.Opts) (GCommand.mk t2.Kind t2.Seq t2.Name t2.Key t2.N (nV t2.Data) (GPolicy.mk t2.Opts.Queue t2.Opts.ToStart t2.Opts.ToClose t2.Opts.Total t2.Opts.Beat t2.Opts.First t2.Opts.Coef t2.Opts.Most t2.Opts.Attempts []))) else (if (c_t1.Kind == 5) = true then (Tryz.F157_s3 (GCommand.mk c_t1.Kind c_t1.Seq c_t1.Name c_t1.Key 0 c_t1.Data c_t1.Opts) (GCommand.mk t2.Kind t2.Seq t2.Name t2.Key t2.N (nV t2.Data) (GPolicy.mk t2.Opts.Queue t2.Opts.ToStart t2.Opts.ToClose t2.Opts.Total t2.Opts.Beat t2.Opts.First t2.Opts.Coef t2.Opts.Most t2.Opts.Attempts []))) else (if (c_t1.Kind == 7) = true then (Tryz.F157_s3 (GCommand.mk c_t1.Kind c_t1.Seq c_t1.Name c_t1.Key 0 c_t1.Data c_t1.Opts) (GCommand.mk t2.Kind t2.Seq t2.Name t2.Key t2.N (nV t2.Data) (GPolicy.mk t2.Opts.Queue t2.Opts.ToStart t2.Opts.ToClose t2.Opts.Total t2.Opts.Beat t2.Opts.First t2.Opts.Coef t2.Opts.Most t2.Opts.Attempts []))) else (if (c_t1.Kind == 9) = true then (Tryz.F157_s3 (GCommand.mk c_t1.Kind c_t1.Seq c_t1.Name c_t1.Key 0 c_t1.Data c_t1.Opts) (GCommand.mk t2.Kind t2.Seq t2.Name t2.Key t2.N (nV t2.Data) (GPolicy.mk t2.Opts.Queue t2.Opts.ToStart t2.Opts.ToClose t2.Opts.Total t2.Opts.Beat t2.Opts.First t2.Opts.Coef t2.Opts.Most t2.Opts.Attempts []))) else (Tryz.F157_s3 c_t1 (GCommand.mk t2.Kind t2.Seq t2.Name t2.Key t2.N (nV t2.Data) (GPolicy.mk t2.Opts.Queue t2.Opts.ToStart t2.Opts.ToClose t2.Opts.Total t2.Opts.Beat t2.Opts.First t2.Opts.Coef t2.Opts.Most t2.Opts.Attempts [])))))))
theorem Tryz.e157_s2 (c_t1 : GCommand) (t2 : GCommand) : Ev Tryz.c157 (.s2 c_t1 t2) (Tryz.F157_s2 c_t1 t2) := Ev.intro (U.ite_if (fun hc => U.ke_jump (Tryz.e157_s3 (GCommand.mk c_t1.Kind c_t1.Seq c_t1.Name c_t1.Key 0 c_t1.Data c_t1.Opts) (GCommand.mk t2.Kind t2.Seq t2.Name t2.Key t2.N (nV t2.Data) (GPolicy.mk t2.Opts.Queue t2.Opts.ToStart t2.Opts.ToClose t2.Opts.Total t2.Opts.Beat t2.Opts.First t2.Opts.Coef t2.Opts.Most t2.Opts.Attempts [])))) (fun hc => U.ite_if (fun hc => U.ke_jump (Tryz.e157_s3 (GCommand.mk c_t1.Kind c_t1.Seq c_t1.Name c_t1.Key 0 c_t1.Data c_t1.Opts) (GCommand.mk t2.Kind t2.Seq t2.Name t2.Key t2.N (nV t2.Data) (GPolicy.mk t2.Opts.Queue t2.Opts.ToStart t2.Opts.ToClose t2.Opts.Total t2.Opts.Beat t2.Opts.First t2.Opts.Coef t2.Opts.Most t2.Opts.Attempts [])))) (fun hc => U.ite_if (fun hc => U.ke_jump (Tryz.e157_s3 (GCommand.mk c_t1.Kind c_t1.Seq c_t1.Name c_t1.Key 0 c_t1.Data c_t1.Opts) (GCommand.mk t2.Kind t2.Seq t2.Name t2.Key t2.N (nV t2.Data) (GPolicy.mk t2.Opts.Queue t2.Opts.ToStart t2.Opts.ToClose t2.Opts.Total t2.Opts.Beat t2.Opts.First t2.Opts.Coef t2.Opts.Most t2.Opts.Attempts [])))) (fun hc => U.ite_if (fun hc => U.ke_jump (Tryz.e157_s3 (GCommand.mk c_t1.Kind c_t1.Seq c_t1.Name c_t1.Key 0 c_t1.Data c_t1.Opts) (GCommand.mk t2.Kind t2.Seq t2.Name t2.Key t2.N (nV t2.Data) (GPolicy.mk t2.Opts.Queue t2.Opts.ToStart t2.Opts.ToClose t2.Opts.Total t2.Opts.Beat t2.Opts.First t2.Opts.Coef t2.Opts.Most t2.Opts.Attempts [])))) (fun hc => U.ke_jump (Tryz.e157_s3 c_t1 (GCommand.mk t2.Kind t2.Seq t2.Name t2.Key t2.N (nV t2.Data) (GPolicy.mk t2.Opts.Queue t2.Opts.ToStart t2.Opts.ToClose t2.Opts.Total t2.Opts.Beat t2.Opts.First t2.Opts.Coef t2.Opts.Most t2.Opts.Attempts []))))))))
def Tryz.F157_s1 (c_t1 : GCommand) (t2 : GCommand) : GCommand := (if (c_t1.Kind == 5) = true then (Tryz.F157_s2 (GCommand.mk c_t1.Kind c_t1.Seq c_t1.Name eB c_t1.N c_t1.Data c_t1.Opts) (GCommand.mk t2.Kind t2.Seq t2.Name t2.Key t2.N (nV t2.Data) (GPolicy.mk t2.Opts.Queue t2.Opts.ToStart t2.Opts.ToClose t2.Opts.Total t2.Opts.Beat t2.Opts.First t2.Opts.Coef t2.Opts.Most t2.Opts.Attempts []))) else (if (c_t1.Kind == 6) = true then (Tryz.F157_s2 (GCommand.mk c_t1.Kind c_t1.Seq c_t1.Name eB c_t1.N c_t1.Data c_t1.Opts) (GCommand.mk t2.Kind t2.Seq t2.Name t2.Key t2.N (nV t2.Data) (GPolicy.mk t2.Opts.Queue t2.Opts.ToStart t2.Opts.ToClose t2.Opts.Total t2.Opts.Beat t2.Opts.First t2.Opts.Coef t2.Opts.Most t2.Opts.Attempts []))) else (if (c_t1.Kind == 8) = true then (Tryz.F157_s2 (GCommand.mk c_t1.Kind c_t1.Seq c_t1.Name eB c_t1.N c_t1.Data c_t1.Opts) (GCommand.mk t2.Kind t2.Seq t2.Name t2.Key t2.N (nV t2.Data) (GPolicy.mk t2.Opts.Queue t2.Opts.ToStart t2.Opts.ToClose t2.Opts.Total t2.Opts.Beat t2.Opts.First t2.Opts.Coef t2.Opts.Most t2.Opts.Attempts []))) else (if (c_t1.Kind == 9) = true then (Tryz.F157_s2 (GCommand.mk c_t1.Kind c_t1.Seq c_t1.Name eB c_t1.N c_t1.Data c_t1.Opts) (GCommand.mk t2.Kind t2.Seq t2.Name t2.Key t2.N (nV t2.Data) (GPolicy.mk t2.Opts.Queue t2.Opts.ToStart t2.Opts.ToClose t2.Opts.Total t2.Opts.Beat t2.Opts.First t2.Opts.Coef t2.Opts.Most t2.Opts.Attempts []))) else (Tryz.F157_s2 c_t1 (GCommand.mk t2.Kind t2.Seq t2.Name t2.Key t2.N (nV t2.Data) (GPolicy.mk t2.Opts.Queue t2.Opts.ToStart t2.Opts.ToClose t2.Opts.Total t2.Opts.Beat t2.Opts.First t2.Opts.Coef t2.Opts.Most t2.Opts.Attempts [])))))))
theorem Tryz.e157_s1 (c_t1 : GCommand) (t2 : GCommand) : Ev Tryz.c157 (.s1 c_t1 t2) (Tryz.F157_s1 c_t1 t2) := Ev.intro (U.ite_if (fun hc => U.ke_jump (Tryz.e157_s2 (GCommand.mk c_t1.Kind c_t1.Seq c_t1.Name eB c_t1.N c_t1.Data c_t1.Opts) (GCommand.mk t2.Kind t2.Seq t2.Name t2.Key t2.N (nV t2.Data) (GPolicy.mk t2.Opts.Queue t2.Opts.ToStart t2.Opts.ToClose t2.Opts.Total t2.Opts.Beat t2.Opts.First t2.Opts.Coef t2.Opts.Most t2.Opts.Attempts [])))) (fun hc => U.ite_if (fun hc => U.ke_jump (Tryz.e157_s2 (GCommand.mk c_t1.Kind c_t1.Seq c_t1.Name eB c_t1.N c_t1.Data c_t1.Opts) (GCommand.mk t2.Kind t2.Seq t2.Name t2.Key t2.N (nV t2.Data) (GPolicy.mk t2.Opts.Queue t2.Opts.ToStart t2.Opts.ToClose t2.Opts.Total t2.Opts.Beat t2.Opts.First t2.Opts.Coef t2.Opts.Most t2.Opts.Attempts [])))) (fun hc => U.ite_if (fun hc => U.ke_jump (Tryz.e157_s2 (GCommand.mk c_t1.Kind c_t1.Seq c_t1.Name eB c_t1.N c_t1.Data c_t1.Opts) (GCommand.mk t2.Kind t2.Seq t2.Name t2.Key t2.N (nV t2.Data) (GPolicy.mk t2.Opts.Queue t2.Opts.ToStart t2.Opts.ToClose t2.Opts.Total t2.Opts.Beat t2.Opts.First t2.Opts.Coef t2.Opts.Most t2.Opts.Attempts [])))) (fun hc => U.ite_if (fun hc => U.ke_jump (Tryz.e157_s2 (GCommand.mk c_t1.Kind c_t1.Seq c_t1.Name eB c_t1.N c_t1.Data c_t1.Opts) (GCommand.mk t2.Kind t2.Seq t2.Name t2.Key t2.N (nV t2.Data) (GPolicy.mk t2.Opts.Queue t2.Opts.ToStart t2.Opts.ToClose t2.Opts.Total t2.Opts.Beat t2.Opts.First t2.Opts.Coef t2.Opts.Most t2.Opts.Attempts [])))) (fun hc => U.ke_jump (Tryz.e157_s2 c_t1 (GCommand.mk t2.Kind t2.Seq t2.Name t2.Key t2.N (nV t2.Data) (GPolicy.mk t2.Opts.Queue t2.Opts.ToStart t2.Opts.ToClose t2.Opts.Total t2.Opts.Beat t2.Opts.First t2.Opts.Coef t2.Opts.Most t2.Opts.Attempts []))))))))
def Tryz.F157_s0 (c_t1 : GCommand) (t2 : GCommand) : GCommand := (if (c_t1.Kind == 1) = true then (Tryz.F157_s1 (GCommand.mk c_t1.Kind c_t1.Seq eB c_t1.Key c_t1.N c_t1.Data c_t1.Opts) (GCommand.mk t2.Kind t2.Seq t2.Name t2.Key t2.N (nV t2.Data) (GPolicy.mk t2.Opts.Queue t2.Opts.ToStart t2.Opts.ToClose t2.Opts.Total t2.Opts.Beat t2.Opts.First t2.Opts.Coef t2.Opts.Most t2.Opts.Attempts []))) else (if (c_t1.Kind == 5) = true then (Tryz.F157_s1 (GCommand.mk c_t1.Kind c_t1.Seq eB c_t1.Key c_t1.N c_t1.Data c_t1.Opts) (GCommand.mk t2.Kind t2.Seq t2.Name t2.Key t2.N (nV t2.Data) (GPolicy.mk t2.Opts.Queue t2.Opts.ToStart t2.Opts.ToClose t2.Opts.Total t2.Opts.Beat t2.Opts.First t2.Opts.Coef t2.Opts.Most t2.Opts.Attempts []))) else (if (c_t1.Kind == 6) = true then (Tryz.F157_s1 (GCommand.mk c_t1.Kind c_t1.Seq eB c_t1.Key c_t1.N c_t1.Data c_t1.Opts) (GCommand.mk t2.Kind t2.Seq t2.Name t2.Key t2.N (nV t2.Data) (GPolicy.mk t2.Opts.Queue t2.Opts.ToStart t2.Opts.ToClose t2.Opts.Total t2.Opts.Beat t2.Opts.First t2.Opts.Coef t2.Opts.Most t2.Opts.Attempts []))) else (if (c_t1.Kind == 7) = true then (Tryz.F157_s1 (GCommand.mk c_t1.Kind c_t1.Seq eB c_t1.Key c_t1.N c_t1.Data c_t1.Opts) (GCommand.mk t2.Kind t2.Seq t2.Name t2.Key t2.N (nV t2.Data) (GPolicy.mk t2.Opts.Queue t2.Opts.ToStart t2.Opts.ToClose t2.Opts.Total t2.Opts.Beat t2.Opts.First t2.Opts.Coef t2.Opts.Most t2.Opts.Attempts []))) else (if (c_t1.Kind == 8) = true then (Tryz.F157_s1 (GCommand.mk c_t1.Kind c_t1.Seq eB c_t1.Key c_t1.N c_t1.Data c_t1.Opts) (GCommand.mk t2.Kind t2.Seq t2.Name t2.Key t2.N (nV t2.Data) (GPolicy.mk t2.Opts.Queue t2.Opts.ToStart t2.Opts.ToClose t2.Opts.Total t2.Opts.Beat t2.Opts.First t2.Opts.Coef t2.Opts.Most t2.Opts.Attempts []))) else (if (c_t1.Kind == 12) = true then (Tryz.F157_s1 (GCommand.mk c_t1.Kind c_t1.Seq eB c_t1.Key c_t1.N c_t1.Data c_t1.Opts) (GCommand.mk t2.Kind t2.Seq t2.Name t2.Key t2.N (nV t2.Data) (GPolicy.mk t2.Opts.Queue t2.Opts.ToStart t2.Opts.ToClose t2.Opts.Total t2.Opts.Beat t2.Opts.First t2.Opts.Coef t2.Opts.Most t2.Opts.Attempts []))) else (Tryz.F157_s1 c_t1 (GCommand.mk t2.Kind t2.Seq t2.Name t2.Key t2.N (nV t2.Data) (GPolicy.mk t2.Opts.Queue t2.Opts.ToStart t2.Opts.ToClose t2.Opts.Total t2.Opts.Beat t2.Opts.First t2.Opts.Coef t2.Opts.Most t2.Opts.Attempts [])))))))))
theorem Tryz.e157_s0 (c_t1 : GCommand) (t2 : GCommand) : Ev Tryz.c157 (.s0 c_t1 t2) (Tryz.F157_s0 c_t1 t2) := Ev.intro (U.ite_if (fun hc => U.ke_jump (Tryz.e157_s1 (GCommand.mk c_t1.Kind c_t1.Seq eB c_t1.Key c_t1.N c_t1.Data c_t1.Opts) (GCommand.mk t2.Kind t2.Seq t2.Name t2.Key t2.N (nV t2.Data) (GPolicy.mk t2.Opts.Queue t2.Opts.ToStart t2.Opts.ToClose t2.Opts.Total t2.Opts.Beat t2.Opts.First t2.Opts.Coef t2.Opts.Most t2.Opts.Attempts [])))) (fun hc => U.ite_if (fun hc => U.ke_jump (Tryz.e157_s1 (GCommand.mk c_t1.Kind c_t1.Seq eB c_t1.Key c_t1.N c_t1.Data c_t1.Opts) (GCommand.mk t2.Kind t2.Seq t2.Name t2.Key t2.N (nV t2.Data) (GPolicy.mk t2.Opts.Queue t2.Opts.ToStart t2.Opts.ToClose t2.Opts.Total t2.Opts.Beat t2.Opts.First t2.Opts.Coef t2.Opts.Most t2.Opts.Attempts [])))) (fun hc => U.ite_if (fun hc => U.ke_jump (Tryz.e157_s1 (GCommand.mk c_t1.Kind c_t1.Seq eB c_t1.Key c_t1.N c_t1.Data c_t1.Opts) (GCommand.mk t2.Kind t2.Seq t2.Name t2.Key t2.N (nV t2.Data) (GPolicy.mk t2.Opts.Queue t2.Opts.ToStart t2.Opts.ToClose t2.Opts.Total t2.Opts.Beat t2.Opts.First t2.Opts.Coef t2.Opts.Most t2.Opts.Attempts [])))) (fun hc => U.ite_if (fun hc => U.ke_jump (Tryz.e157_s1 (GCommand.mk c_t1.Kind c_t1.Seq eB c_t1.Key c_t1.N c_t1.Data c_t1.Opts) (GCommand.mk t2.Kind t2.Seq t2.Name t2.Key t2.N (nV t2.Data) (GPolicy.mk t2.Opts.Queue t2.Opts.ToStart t2.Opts.ToClose t2.Opts.Total t2.Opts.Beat t2.Opts.First t2.Opts.Coef t2.Opts.Most t2.Opts.Attempts [])))) (fun hc => U.ite_if (fun hc => U.ke_jump (Tryz.e157_s1 (GCommand.mk c_t1.Kind c_t1.Seq eB c_t1.Key c_t1.N c_t1.Data c_t1.Opts) (GCommand.mk t2.Kind t2.Seq t2.Name t2.Key t2.N (nV t2.Data) (GPolicy.mk t2.Opts.Queue t2.Opts.ToStart t2.Opts.ToClose t2.Opts.Total t2.Opts.Beat t2.Opts.First t2.Opts.Coef t2.Opts.Most t2.Opts.Attempts [])))) (fun hc => U.ite_if (fun hc => U.ke_jump (Tryz.e157_s1 (GCommand.mk c_t1.Kind c_t1.Seq eB c_t1.Key c_t1.N c_t1.Data c_t1.Opts) (GCommand.mk t2.Kind t2.Seq t2.Name t2.Key t2.N (nV t2.Data) (GPolicy.mk t2.Opts.Queue t2.Opts.ToStart t2.Opts.ToClose t2.Opts.Total t2.Opts.Beat t2.Opts.First t2.Opts.Coef t2.Opts.Most t2.Opts.Attempts [])))) (fun hc => U.ke_jump (Tryz.e157_s1 c_t1 (GCommand.mk t2.Kind t2.Seq t2.Name t2.Key t2.N (nV t2.Data) (GPolicy.mk t2.Opts.Queue t2.Opts.ToStart t2.Opts.ToClose t2.Opts.Total t2.Opts.Beat t2.Opts.First t2.Opts.Coef t2.Opts.Most t2.Opts.Attempts []))))))))))
def Tryz.F157 (c_0 : GCommand) : GCommand := (if (c_0.Kind == 1) = true then (Tryz.F157_s0 (GCommand.mk c_0.Kind 0 c_0.Name c_0.Key c_0.N c_0.Data c_0.Opts) (GCommand.mk 0 0 eB eB 0 zV zO)) else (if (c_0.Kind == 2) = true then (Tryz.F157_s0 (GCommand.mk c_0.Kind 0 c_0.Name c_0.Key c_0.N c_0.Data c_0.Opts) (GCommand.mk 0 0 eB eB 0 zV zO)) else (if (c_0.Kind == 3) = true then (Tryz.F157_s0 (GCommand.mk c_0.Kind 0 c_0.Name c_0.Key c_0.N c_0.Data c_0.Opts) (GCommand.mk 0 0 eB eB 0 zV zO)) else (if (c_0.Kind == 4) = true then (Tryz.F157_s0 (GCommand.mk c_0.Kind 0 c_0.Name c_0.Key c_0.N c_0.Data c_0.Opts) (GCommand.mk 0 0 eB eB 0 zV zO)) else (if (c_0.Kind == 5) = true then (Tryz.F157_s0 (GCommand.mk c_0.Kind 0 c_0.Name c_0.Key c_0.N c_0.Data c_0.Opts) (GCommand.mk 0 0 eB eB 0 zV zO)) else (if (c_0.Kind == 6) = true then (Tryz.F157_s0 (GCommand.mk c_0.Kind 0 c_0.Name c_0.Key c_0.N c_0.Data c_0.Opts) (GCommand.mk 0 0 eB eB 0 zV zO)) else (Tryz.F157_s0 c_0 (GCommand.mk 0 0 eB eB 0 zV zO))))))))
theorem Tryz.p157 (c_0 : GCommand) : Tryz.m157.R c_0 (Tryz.F157 c_0) := U.ite_if (fun hc => U.ke_jump (Tryz.e157_s0 (GCommand.mk c_0.Kind 0 c_0.Name c_0.Key c_0.N c_0.Data c_0.Opts) (GCommand.mk 0 0 eB eB 0 zV zO))) (fun hc => U.ite_if (fun hc => U.ke_jump (Tryz.e157_s0 (GCommand.mk c_0.Kind 0 c_0.Name c_0.Key c_0.N c_0.Data c_0.Opts) (GCommand.mk 0 0 eB eB 0 zV zO))) (fun hc => U.ite_if (fun hc => U.ke_jump (Tryz.e157_s0 (GCommand.mk c_0.Kind 0 c_0.Name c_0.Key c_0.N c_0.Data c_0.Opts) (GCommand.mk 0 0 eB eB 0 zV zO))) (fun hc => U.ite_if (fun hc => U.ke_jump (Tryz.e157_s0 (GCommand.mk c_0.Kind 0 c_0.Name c_0.Key c_0.N c_0.Data c_0.Opts) (GCommand.mk 0 0 eB eB 0 zV zO))) (fun hc => U.ite_if (fun hc => U.ke_jump (Tryz.e157_s0 (GCommand.mk c_0.Kind 0 c_0.Name c_0.Key c_0.N c_0.Data c_0.Opts) (GCommand.mk 0 0 eB eB 0 zV zO))) (fun hc => U.ite_if (fun hc => U.ke_jump (Tryz.e157_s0 (GCommand.mk c_0.Kind 0 c_0.Name c_0.Key c_0.N c_0.Data c_0.Opts) (GCommand.mk 0 0 eB eB 0 zV zO))) (fun hc => U.ke_jump (Tryz.e157_s0 c_0 (GCommand.mk 0 0 eB eB 0 zV zO))))))))
theorem F157_ok {c : GCommand} (h : cmok c) : cmok (Tryz.F157 c) := by
  have z4 : ∀ (c : GCommand) t, cmok c → cmok (Tryz.F157_s4 c t) := fun c t h => by unfold Tryz.F157_s4; split <;> first | exact h | exact ⟨h.d, Nat.zero_le _, h.k⟩
  have z3 : ∀ (c : GCommand) t, cmok c → cmok (Tryz.F157_s3 c t) := fun c t h => by unfold Tryz.F157_s3; (repeat' split) <;> first | exact z4 _ _ h | exact z4 _ _ ⟨vz_ok, h.o, h.k⟩
  have z2 : ∀ (c : GCommand) t, cmok c → cmok (Tryz.F157_s2 c t) := fun c t h => by unfold Tryz.F157_s2; (repeat' split) <;> exact z3 _ _ ⟨h.d, h.o, h.k⟩
  have z1 : ∀ (c : GCommand) t, cmok c → cmok (Tryz.F157_s1 c t) := fun c t h => by unfold Tryz.F157_s1; (repeat' split) <;> first | exact z2 _ _ ⟨h.d, h.o, h.k⟩ | exact z2 _ _ ⟨h.d, h.o, (by show (0:Nat) ≤ _; omega)⟩
  have z0 : ∀ (c : GCommand) t, cmok c → cmok (Tryz.F157_s0 c t) := fun c t h => by unfold Tryz.F157_s0; (repeat' split) <;> exact z1 _ _ ⟨h.d, h.o, h.k⟩
  unfold Tryz.F157; (repeat' split) <;> exact z0 _ _ ⟨h.d, h.o, h.k⟩
def Tryz.F156 (a_0 : GCommand) (b_1 : GCommand) : Bool := (if (a_0.Kind == b_1.Kind) = true then (if (a_0.Seq == b_1.Seq) = true then (if (strEq a_0.Name b_1.Name) = true then (if (strEq a_0.Key b_1.Key) = true then (if (a_0.N == b_1.N) = true then (if (decide (a_0.Data = b_1.Data)) = true then (decide (a_0.Opts = b_1.Opts)) else false) else false) else false) else false) else false) else false)
theorem Tryz.p156 (a_0 : GCommand) (b_1 : GCommand)  (h : cmok a_0) : Tryz.m156.R (a_0, b_1) (Tryz.F156 a_0 b_1) := U.ite_if (fun hc => U.ite_if (fun hc => U.ite_if (fun hc => U.ite_if (fun hc => U.ite_if (fun hc => U.run_call  _ (ZE.m64 _ _ h.d) (U.ite_if (fun hc => U.run_call  _ (ZE.m145 _ _ h.o) (U.ke_ret rfl)) (fun hc => U.ke_ret rfl))) (fun hc => U.ke_ret rfl)) (fun hc => U.ke_ret rfl)) (fun hc => U.ke_ret rfl)) (fun hc => U.ke_ret rfl)) (fun hc => U.ke_ret rfl)
def Tryz.F104_s0 (c_t1 : GCommand) (seq_t3 : Bool) (name_t4 : Bool) (key_t5 : Bool) (t35 : Int) (t47 : Bool) : Bool := (if t47 = true then seq_t3 else (if (t35 == 3) = true then (if seq_t3 = true then (rng c_t1.N 1 1099511627776) else false) else (if (t35 == 5) = true then (if seq_t3 = true then (if name_t4 = true then (if key_t5 = true then (rng c_t1.N 0 2) else false) else false) else false) else (if (t35 == 6) = true then (if seq_t3 = true then (if name_t4 = true then key_t5 else false) else false) else (if (t35 == 7) = true then (if name_t4 = true then (if (c_t1.N == (-1)) = true then true else (if (rng c_t1.N 0 2147483647) = true then (c_t1.Data.Kind == 0) else false)) else false) else (if (t35 == 8) = true then (if key_t5 = true then name_t4 else false) else (if (t35 == 9) = true then (if key_t5 = true then (rng c_t1.N 0 1) else false) else (if (t35 == 10) = true then (c_t1.Data.Kind == 5) else (if (t35 == 12) = true then (decide ((c_t1.Name.size : Int) ≤ 4096)) else (if (t35 == 14) = true then (inp c_t1.Data) else true))))))))))
theorem Tryz.e104_s0 (c_t1 : GCommand) (seq_t3 : Bool) (name_t4 : Bool) (key_t5 : Bool) (t35 : Int) (t47 : Bool) (h : cmok c_t1) : Ev Tryz.c104 (.s0 c_t1 seq_t3 name_t4 key_t5 t35 t47) (Tryz.F104_s0 c_t1 seq_t3 name_t4 key_t5 t35 t47) := Ev.intro (U.ite_if (fun hc => U.ke_ret rfl) (fun hc => U.ite_if (fun hc => U.ite_if (fun hc => U.run_call  _ (ZR.m114 _ _ _) (U.ke_ret rfl)) (fun hc => U.ke_ret rfl)) (fun hc => U.ite_if (fun hc => U.ite_if (fun hc => U.ite_if (fun hc => U.ite_if (fun hc => U.run_call  _ (ZR.m114 _ _ _) (U.ke_ret rfl)) (fun hc => U.ke_ret rfl)) (fun hc => U.ke_ret rfl)) (fun hc => U.ke_ret rfl)) (fun hc => U.ite_if (fun hc => U.ite_if (fun hc => U.ite_if (fun hc => U.ke_ret rfl) (fun hc => U.ke_ret rfl)) (fun hc => U.ke_ret rfl)) (fun hc => U.ite_if (fun hc => U.ite_if (fun hc => U.ite_if (fun hc => U.ke_ret rfl) (fun hc => U.run_call  _ (ZR.m114 _ _ _) (U.ite_if (fun hc => U.ke_ret rfl) (fun hc => U.ke_ret rfl)))) (fun hc => U.ke_ret rfl)) (fun hc => U.ite_if (fun hc => U.ite_if (fun hc => U.ke_ret rfl) (fun hc => U.ke_ret rfl)) (fun hc => U.ite_if (fun hc => U.ite_if (fun hc => U.run_call  _ (ZR.m114 _ _ _) (U.ke_ret rfl)) (fun hc => U.ke_ret rfl)) (fun hc => U.ite_if (fun hc => U.ke_ret rfl) (fun hc => U.ite_if (fun hc => U.ke_ret rfl) (fun hc => U.ite_if (fun hc => U.run_call  _ (ZR.m162 _ h.d) (U.ke_ret rfl)) (fun hc => U.ke_ret rfl)))))))))))
def Tryz.F104 (c_0 : GCommand) : Bool := (if (!(rng c_0.Kind 1 14)) = true then false else (if (!(Tryz.F156 (Tryz.F157 c_0) (GCommand.mk c_0.Kind 0 eB eB 0 zV zO))) = true then false else (if (!(right c_0.Data)) = true then false else (if (c_0.Kind == 1) = true then (if (rng c_0.Seq 1 2000) = true then (if (RT.nameOk c_0.Name) = true then (polR c_0.Opts) else false) else false) else (if (c_0.Kind == 2) = true then (Tryz.F104_s0 c_0 (rng c_0.Seq 1 2000) (RT.nameOk c_0.Name) (ident c_0.Key) c_0.Kind true) else (Tryz.F104_s0 c_0 (rng c_0.Seq 1 2000) (RT.nameOk c_0.Name) (ident c_0.Key) c_0.Kind (c_0.Kind == 4)))))))
theorem Tryz.p104 (c_0 : GCommand) (h : cmok c_0) : Tryz.m104.R c_0 (Tryz.F104 c_0) := U.run_call  _ (ZR.m114 _ _ _) (U.ite_if (fun hc => U.ke_ret rfl) (fun hc => U.run_call  _ (Tryz.p157 _) (U.run_call  _ (Tryz.p156 _ _ (F157_ok h)) (U.ite_if (fun hc => U.ke_ret rfl) (fun hc => U.run_call  _ (VU.m158 _ h.d) (U.ite_if (fun hc => U.ke_ret rfl) (fun hc => U.run_call  _ (ZR.m114 _ _ _) (U.run_call  _ (VU.m159 _) (U.run_call  _ (ZR.m160 _ h.k) (U.ite_if (fun hc => U.ite_if (fun hc => U.ite_if (fun hc => U.run_call  _ (ZR.m161 _ h.o) (U.ke_ret rfl)) (fun hc => U.ke_ret rfl)) (fun hc => U.ke_ret rfl)) (fun hc => U.ite_if (fun hc => U.ke_jump (Tryz.e104_s0 c_0 (rng c_0.Seq 1 2000) (RT.nameOk c_0.Name) (ident c_0.Key) c_0.Kind true h)) (fun hc => U.ke_jump (Tryz.e104_s0 c_0 (rng c_0.Seq 1 2000) (RT.nameOk c_0.Name) (ident c_0.Key) c_0.Kind (c_0.Kind == 4) h)))))))))))))
def Tryz.F168 (e_0 : GEvent) : GCommand := (GCommand.mk (cmdOf e_0.Kind) e_0.Seq e_0.Name e_0.Key e_0.N e_0.Data e_0.Opts)
theorem Tryz.p168 (e_0 : GEvent) : Tryz.m168.R e_0 (Tryz.F168 e_0) := U.run_call  _ (ZR.m113 _) (U.ke_ret rfl)
def Tryz.F212_s3 (t2 : Gfields) (t3 : Int) (t33 : Bool) : Gfields := (if t33 = true then (Gfields.mk true true false false false false false false) else (if (t3 == 17) = true then (Gfields.mk false false false false true true true false) else (if (t3 == 20) = true then (Gfields.mk true true false false false true false false) else (if (t3 == 25) = true then (Gfields.mk true true false false true false false false) else (if (t3 == 26) = true then (Gfields.mk false false false false false true false false) else (if (t3 == 33) = true then (Gfields.mk false false false false true false false false) else (if (t3 == 7) = true then (Gfields.mk true false false false true false true true) else (if (t3 == 14) = true then (Gfields.mk true false true false false false false false) else (if (t3 == 19) = true then (Gfields.mk true false true false true true true false) else (if (t3 == 23) = true then (Gfields.mk true false false false true true true false) else (if (t3 == 18) = true then (Gfields.mk false false true false true false true false) else (if (t3 == 27) = true then (Gfields.mk false false false false true true true false) else (if (t3 == 28) = true then (Gfields.mk false false true false false true true false) else (if (t3 == 31) = true then (Gfields.mk false false false false true false true false) else (if (t3 == 29) = true then (Gfields.mk false false false false false false true false) else (if (t3 == 30) = true then (Gfields.mk false false false false false false true false) else (if (t3 == 32) = true then (Gfields.mk false false false false false false true false) else (if (t3 == 35) = true then (Gfields.mk false false false false false false true false) else (Gfields.mk false false false false false false false false)))))))))))))))))))
theorem Tryz.e212_s3 (t2 : Gfields) (t3 : Int) (t33 : Bool) : Ev Tryz.c212 (.s3 t2 t3 t33) (Tryz.F212_s3 t2 t3 t33) := Ev.intro (U.ite_if (fun hc => U.ke_ret rfl) (fun hc => U.ite_if (fun hc => U.ke_ret rfl) (fun hc => U.ite_if (fun hc => U.ke_ret rfl) (fun hc => U.ite_if (fun hc => U.ke_ret rfl) (fun hc => U.ite_if (fun hc => U.ke_ret rfl) (fun hc => U.ite_if (fun hc => U.ke_ret rfl) (fun hc => U.ite_if (fun hc => U.ke_ret rfl) (fun hc => U.ite_if (fun hc => U.ke_ret rfl) (fun hc => U.ite_if (fun hc => U.ke_ret rfl) (fun hc => U.ite_if (fun hc => U.ke_ret rfl) (fun hc => U.ite_if (fun hc => U.ke_ret rfl) (fun hc => U.ite_if (fun hc => U.ke_ret rfl) (fun hc => U.ite_if (fun hc => U.ke_ret rfl) (fun hc => U.ite_if (fun hc => U.ke_ret rfl) (fun hc => U.ite_if (fun hc => U.ke_ret rfl) (fun hc => U.ite_if (fun hc => U.ke_ret rfl) (fun hc => U.ite_if (fun hc => U.ke_ret rfl) (fun hc => U.ite_if (fun hc => U.ke_ret rfl) (fun hc => U.ke_ret rfl)))))))))))))))))))
def Tryz.F212_s2 (t2 : Gfields) (t3 : Int) (t26 : Bool) : Gfields := (if t26 = true then (Gfields.mk true true false false true false true false) else (if (t3 == 11) = true then (Gfields.mk true true false true false false false false) else (if (t3 == 15) = true then (Tryz.F212_s3 t2 t3 true) else (if (t3 == 24) = true then (Tryz.F212_s3 t2 t3 true) else (if (t3 == 12) = true then (Tryz.F212_s3 t2 t3 true) else (Tryz.F212_s3 t2 t3 (t3 == 16)))))))
theorem Tryz.e212_s2 (t2 : Gfields) (t3 : Int) (t26 : Bool) : Ev Tryz.c212 (.s2 t2 t3 t26) (Tryz.F212_s2 t2 t3 t26) := Ev.intro (U.ite_if (fun hc => U.ke_ret rfl) (fun hc => U.ite_if (fun hc => U.ke_ret rfl) (fun hc => U.ite_if (fun hc => U.ke_jump (Tryz.e212_s3 t2 t3 true)) (fun hc => U.ite_if (fun hc => U.ke_jump (Tryz.e212_s3 t2 t3 true)) (fun hc => U.ite_if (fun hc => U.ke_jump (Tryz.e212_s3 t2 t3 true)) (fun hc => U.ke_jump (Tryz.e212_s3 t2 t3 (t3 == 16))))))))
def Tryz.F212_s1 (t2 : Gfields) (t3 : Int) (t21 : Bool) : Gfields := (if t21 = true then (Gfields.mk true true false false false false true false) else (if (t3 == 10) = true then (Tryz.F212_s2 t2 t3 true) else (Tryz.F212_s2 t2 t3 (t3 == 22))))
theorem Tryz.e212_s1 (t2 : Gfields) (t3 : Int) (t21 : Bool) : Ev Tryz.c212 (.s1 t2 t3 t21) (Tryz.F212_s1 t2 t3 t21) := Ev.intro (U.ite_if (fun hc => U.ke_ret rfl) (fun hc => U.ite_if (fun hc => U.ke_jump (Tryz.e212_s2 t2 t3 true)) (fun hc => U.ke_jump (Tryz.e212_s2 t2 t3 (t3 == 22)))))
def Tryz.F212_s0 (t2 : Gfields) (t3 : Int) (t10 : Bool) : Gfields := (if t10 = true then (Gfields.mk false true false false false false false false) else (if (t3 == 5) = true then (Gfields.mk false true false true false false false false) else (if (t3 == 8) = true then (Gfields.mk true true true false false false false false) else (if (t3 == 9) = true then (Tryz.F212_s1 t2 t3 true) else (if (t3 == 13) = true then (Tryz.F212_s1 t2 t3 true) else (Tryz.F212_s1 t2 t3 (t3 == 21)))))))
theorem Tryz.e212_s0 (t2 : Gfields) (t3 : Int) (t10 : Bool) : Ev Tryz.c212 (.s0 t2 t3 t10) (Tryz.F212_s0 t2 t3 t10) := Ev.intro (U.ite_if (fun hc => U.ke_ret rfl) (fun hc => U.ite_if (fun hc => U.ke_ret rfl) (fun hc => U.ite_if (fun hc => U.ke_ret rfl) (fun hc => U.ite_if (fun hc => U.ke_jump (Tryz.e212_s1 t2 t3 true)) (fun hc => U.ite_if (fun hc => U.ke_jump (Tryz.e212_s1 t2 t3 true)) (fun hc => U.ke_jump (Tryz.e212_s1 t2 t3 (t3 == 21))))))))
def Tryz.F212 (kind_0 : Int) : Gfields := (if (kind_0 == 1) = true then (Gfields.mk false false true false true true true false) else (if (kind_0 == 2) = true then (Gfields.mk false false true false false false false false) else (if (kind_0 == 3) = true then (Tryz.F212_s0 (Gfields.mk false false false false false false false false) kind_0 true) else (if (kind_0 == 4) = true then (Tryz.F212_s0 (Gfields.mk false false false false false false false false) kind_0 true) else (Tryz.F212_s0 (Gfields.mk false false false false false false false false) kind_0 (kind_0 == 6))))))
theorem Tryz.p212 (kind_0 : Int) : Tryz.m212.R kind_0 (Tryz.F212 kind_0) := U.ite_if (fun hc => U.ke_ret rfl) (fun hc => U.ite_if (fun hc => U.ke_ret rfl) (fun hc => U.ite_if (fun hc => U.ke_jump (Tryz.e212_s0 (Gfields.mk false false false false false false false false) kind_0 true)) (fun hc => U.ite_if (fun hc => U.ke_jump (Tryz.e212_s0 (Gfields.mk false false false false false false false false) kind_0 true)) (fun hc => U.ke_jump (Tryz.e212_s0 (Gfields.mk false false false false false false false false) kind_0 (kind_0 == 6))))))
def Tryz.F167_s2 (e_t1 : GEvent) (u_t3 : Gfields) : Bool := (if u_t3.opts = true then true else (decide (e_t1.Opts = zO)))
theorem Tryz.e167_s2 (e_t1 : GEvent) (u_t3 : Gfields) (h : evok e_t1) : Ev Tryz.c167 (.s2 e_t1 u_t3) (Tryz.F167_s2 e_t1 u_t3) := Ev.intro (U.ite_if (fun hc => U.ke_ret rfl) (fun hc => U.run_call  _ (ZE.m145 _ _ h.o) (U.ke_ret rfl)))
def Tryz.F167_s1 (e_t1 : GEvent) (u_t3 : Gfields) : Bool := (if (!(right e_t1.Data)) = true then false else (if (!u_t3.data) = true then (if (e_t1.Data.Kind != 0) = true then false else (Tryz.F167_s2 e_t1 u_t3)) else (Tryz.F167_s2 e_t1 u_t3)))
theorem Tryz.e167_s1 (e_t1 : GEvent) (u_t3 : Gfields) (h : evok e_t1) : Ev Tryz.c167 (.s1 e_t1 u_t3) (Tryz.F167_s1 e_t1 u_t3) := Ev.intro (U.run_call  _ (VU.m158 _ h.d) (U.ite_if (fun hc => U.ke_ret rfl) (fun hc => U.ite_if (fun hc => U.ite_if (fun hc => U.ke_ret rfl) (fun hc => U.ke_jump (Tryz.e167_s2 e_t1 u_t3 h))) (fun hc => U.ke_jump (Tryz.e167_s2 e_t1 u_t3 h)))))
def Tryz.F167_s0 (e_t1 : GEvent) (u_t3 : Gfields) : Bool := (if (!u_t3.n) = true then (if (e_t1.N != 0) = true then false else (if (!u_t3.code) = true then (if (e_t1.Code != 0) = true then false else (if (!u_t3.name) = true then (if (!strEq e_t1.Name eB) = true then false else (if (!u_t3.key) = true then (if (!strEq e_t1.Key eB) = true then false else (Tryz.F167_s1 e_t1 u_t3)) else (Tryz.F167_s1 e_t1 u_t3))) else (if (!u_t3.key) = true then (if (!strEq e_t1.Key eB) = true then false else (Tryz.F167_s1 e_t1 u_t3)) else (Tryz.F167_s1 e_t1 u_t3)))) else (if (!u_t3.name) = true then (if (!strEq e_t1.Name eB) = true then false else (if (!u_t3.key) = true then (if (!strEq e_t1.Key eB) = true then false else (Tryz.F167_s1 e_t1 u_t3)) else (Tryz.F167_s1 e_t1 u_t3))) else (if (!u_t3.key) = true then (if (!strEq e_t1.Key eB) = true then false else (Tryz.F167_s1 e_t1 u_t3)) else (Tryz.F167_s1 e_t1 u_t3))))) else (if (!u_t3.code) = true then (if (e_t1.Code != 0) = true then false else (if (!u_t3.name) = true then (if (!strEq e_t1.Name eB) = true then false else (if (!u_t3.key) = true then (if (!strEq e_t1.Key eB) = true then false else (Tryz.F167_s1 e_t1 u_t3)) else (Tryz.F167_s1 e_t1 u_t3))) else (if (!u_t3.key) = true then (if (!strEq e_t1.Key eB) = true then false else (Tryz.F167_s1 e_t1 u_t3)) else (Tryz.F167_s1 e_t1 u_t3)))) else (if (!u_t3.name) = true then (if (!strEq e_t1.Name eB) = true then false else (if (!u_t3.key) = true then (if (!strEq e_t1.Key eB) = true then false else (Tryz.F167_s1 e_t1 u_t3)) else (Tryz.F167_s1 e_t1 u_t3))) else (if (!u_t3.key) = true then (if (!strEq e_t1.Key eB) = true then false else (Tryz.F167_s1 e_t1 u_t3)) else (Tryz.F167_s1 e_t1 u_t3)))))
theorem Tryz.e167_s0 (e_t1 : GEvent) (u_t3 : Gfields) (h : evok e_t1) : Ev Tryz.c167 (.s0 e_t1 u_t3) (Tryz.F167_s0 e_t1 u_t3) := Ev.intro (U.ite_if (fun hc => U.ite_if (fun hc => U.ke_ret rfl) (fun hc => U.ite_if (fun hc => U.ite_if (fun hc => U.ke_ret rfl) (fun hc => U.ite_if (fun hc => U.ite_if (fun hc => U.ke_ret rfl) (fun hc => U.ite_if (fun hc => U.ite_if (fun hc => U.ke_ret rfl) (fun hc => U.ke_jump (Tryz.e167_s1 e_t1 u_t3 h))) (fun hc => U.ke_jump (Tryz.e167_s1 e_t1 u_t3 h)))) (fun hc => U.ite_if (fun hc => U.ite_if (fun hc => U.ke_ret rfl) (fun hc => U.ke_jump (Tryz.e167_s1 e_t1 u_t3 h))) (fun hc => U.ke_jump (Tryz.e167_s1 e_t1 u_t3 h))))) (fun hc => U.ite_if (fun hc => U.ite_if (fun hc => U.ke_ret rfl) (fun hc => U.ite_if (fun hc => U.ite_if (fun hc => U.ke_ret rfl) (fun hc => U.ke_jump (Tryz.e167_s1 e_t1 u_t3 h))) (fun hc => U.ke_jump (Tryz.e167_s1 e_t1 u_t3 h)))) (fun hc => U.ite_if (fun hc => U.ite_if (fun hc => U.ke_ret rfl) (fun hc => U.ke_jump (Tryz.e167_s1 e_t1 u_t3 h))) (fun hc => U.ke_jump (Tryz.e167_s1 e_t1 u_t3 h)))))) (fun hc => U.ite_if (fun hc => U.ite_if (fun hc => U.ke_ret rfl) (fun hc => U.ite_if (fun hc => U.ite_if (fun hc => U.ke_ret rfl) (fun hc => U.ite_if (fun hc => U.ite_if (fun hc => U.ke_ret rfl) (fun hc => U.ke_jump (Tryz.e167_s1 e_t1 u_t3 h))) (fun hc => U.ke_jump (Tryz.e167_s1 e_t1 u_t3 h)))) (fun hc => U.ite_if (fun hc => U.ite_if (fun hc => U.ke_ret rfl) (fun hc => U.ke_jump (Tryz.e167_s1 e_t1 u_t3 h))) (fun hc => U.ke_jump (Tryz.e167_s1 e_t1 u_t3 h))))) (fun hc => U.ite_if (fun hc => U.ite_if (fun hc => U.ke_ret rfl) (fun hc => U.ite_if (fun hc => U.ite_if (fun hc => U.ke_ret rfl) (fun hc => U.ke_jump (Tryz.e167_s1 e_t1 u_t3 h))) (fun hc => U.ke_jump (Tryz.e167_s1 e_t1 u_t3 h)))) (fun hc => U.ite_if (fun hc => U.ite_if (fun hc => U.ke_ret rfl) (fun hc => U.ke_jump (Tryz.e167_s1 e_t1 u_t3 h))) (fun hc => U.ke_jump (Tryz.e167_s1 e_t1 u_t3 h))))))
def Tryz.F167 (e_0 : GEvent) : Bool := (if (Tryz.F212 e_0.Kind).seq = true then (if (!(rng e_0.Seq 1 2000)) = true then false else (if (!(Tryz.F212 e_0.Kind).seq) = true then (if (e_0.Seq != 0) = true then false else (if (Tryz.F212 e_0.Kind).ref = true then (if (!(rng e_0.Ref 1 2000)) = true then false else (if (!(Tryz.F212 e_0.Kind).ref) = true then (if (e_0.Ref != 0) = true then false else (Tryz.F167_s0 e_0 (Tryz.F212 e_0.Kind))) else (Tryz.F167_s0 e_0 (Tryz.F212 e_0.Kind)))) else (if (!(Tryz.F212 e_0.Kind).ref) = true then (if (e_0.Ref != 0) = true then false else (Tryz.F167_s0 e_0 (Tryz.F212 e_0.Kind))) else (Tryz.F167_s0 e_0 (Tryz.F212 e_0.Kind))))) else (if (Tryz.F212 e_0.Kind).ref = true then (if (!(rng e_0.Ref 1 2000)) = true then false else (if (!(Tryz.F212 e_0.Kind).ref) = true then (if (e_0.Ref != 0) = true then false else (Tryz.F167_s0 e_0 (Tryz.F212 e_0.Kind))) else (Tryz.F167_s0 e_0 (Tryz.F212 e_0.Kind)))) else (if (!(Tryz.F212 e_0.Kind).ref) = true then (if (e_0.Ref != 0) = true then false else (Tryz.F167_s0 e_0 (Tryz.F212 e_0.Kind))) else (Tryz.F167_s0 e_0 (Tryz.F212 e_0.Kind)))))) else (if (!(Tryz.F212 e_0.Kind).seq) = true then (if (e_0.Seq != 0) = true then false else (if (Tryz.F212 e_0.Kind).ref = true then (if (!(rng e_0.Ref 1 2000)) = true then false else (if (!(Tryz.F212 e_0.Kind).ref) = true then (if (e_0.Ref != 0) = true then false else (Tryz.F167_s0 e_0 (Tryz.F212 e_0.Kind))) else (Tryz.F167_s0 e_0 (Tryz.F212 e_0.Kind)))) else (if (!(Tryz.F212 e_0.Kind).ref) = true then (if (e_0.Ref != 0) = true then false else (Tryz.F167_s0 e_0 (Tryz.F212 e_0.Kind))) else (Tryz.F167_s0 e_0 (Tryz.F212 e_0.Kind))))) else (if (Tryz.F212 e_0.Kind).ref = true then (if (!(rng e_0.Ref 1 2000)) = true then false else (if (!(Tryz.F212 e_0.Kind).ref) = true then (if (e_0.Ref != 0) = true then false else (Tryz.F167_s0 e_0 (Tryz.F212 e_0.Kind))) else (Tryz.F167_s0 e_0 (Tryz.F212 e_0.Kind)))) else (if (!(Tryz.F212 e_0.Kind).ref) = true then (if (e_0.Ref != 0) = true then false else (Tryz.F167_s0 e_0 (Tryz.F212 e_0.Kind))) else (Tryz.F167_s0 e_0 (Tryz.F212 e_0.Kind))))))
theorem Tryz.p167 (e_0 : GEvent) (h : evok e_0) : Tryz.m167.R e_0 (Tryz.F167 e_0) := U.run_call  _ (Tryz.p212 _) (U.ite_if (fun hc => U.run_call  _ (ZR.m166 _ _ _) (U.ite_if (fun hc => U.ke_ret rfl) (fun hc => U.ite_if (fun hc => U.ite_if (fun hc => U.ke_ret rfl) (fun hc => U.ite_if (fun hc => U.run_call  _ (ZR.m166 _ _ _) (U.ite_if (fun hc => U.ke_ret rfl) (fun hc => U.ite_if (fun hc => U.ite_if (fun hc => U.ke_ret rfl) (fun hc => U.ke_jump (Tryz.e167_s0 e_0 (Tryz.F212 e_0.Kind) h))) (fun hc => U.ke_jump (Tryz.e167_s0 e_0 (Tryz.F212 e_0.Kind) h))))) (fun hc => U.ite_if (fun hc => U.ite_if (fun hc => U.ke_ret rfl) (fun hc => U.ke_jump (Tryz.e167_s0 e_0 (Tryz.F212 e_0.Kind) h))) (fun hc => U.ke_jump (Tryz.e167_s0 e_0 (Tryz.F212 e_0.Kind) h))))) (fun hc => U.ite_if (fun hc => U.run_call  _ (ZR.m166 _ _ _) (U.ite_if (fun hc => U.ke_ret rfl) (fun hc => U.ite_if (fun hc => U.ite_if (fun hc => U.ke_ret rfl) (fun hc => U.ke_jump (Tryz.e167_s0 e_0 (Tryz.F212 e_0.Kind) h))) (fun hc => U.ke_jump (Tryz.e167_s0 e_0 (Tryz.F212 e_0.Kind) h))))) (fun hc => U.ite_if (fun hc => U.ite_if (fun hc => U.ke_ret rfl) (fun hc => U.ke_jump (Tryz.e167_s0 e_0 (Tryz.F212 e_0.Kind) h))) (fun hc => U.ke_jump (Tryz.e167_s0 e_0 (Tryz.F212 e_0.Kind) h))))))) (fun hc => U.ite_if (fun hc => U.ite_if (fun hc => U.ke_ret rfl) (fun hc => U.ite_if (fun hc => U.run_call  _ (ZR.m166 _ _ _) (U.ite_if (fun hc => U.ke_ret rfl) (fun hc => U.ite_if (fun hc => U.ite_if (fun hc => U.ke_ret rfl) (fun hc => U.ke_jump (Tryz.e167_s0 e_0 (Tryz.F212 e_0.Kind) h))) (fun hc => U.ke_jump (Tryz.e167_s0 e_0 (Tryz.F212 e_0.Kind) h))))) (fun hc => U.ite_if (fun hc => U.ite_if (fun hc => U.ke_ret rfl) (fun hc => U.ke_jump (Tryz.e167_s0 e_0 (Tryz.F212 e_0.Kind) h))) (fun hc => U.ke_jump (Tryz.e167_s0 e_0 (Tryz.F212 e_0.Kind) h))))) (fun hc => U.ite_if (fun hc => U.run_call  _ (ZR.m166 _ _ _) (U.ite_if (fun hc => U.ke_ret rfl) (fun hc => U.ite_if (fun hc => U.ite_if (fun hc => U.ke_ret rfl) (fun hc => U.ke_jump (Tryz.e167_s0 e_0 (Tryz.F212 e_0.Kind) h))) (fun hc => U.ke_jump (Tryz.e167_s0 e_0 (Tryz.F212 e_0.Kind) h))))) (fun hc => U.ite_if (fun hc => U.ite_if (fun hc => U.ke_ret rfl) (fun hc => U.ke_jump (Tryz.e167_s0 e_0 (Tryz.F212 e_0.Kind) h))) (fun hc => U.ke_jump (Tryz.e167_s0 e_0 (Tryz.F212 e_0.Kind) h))))))
def Tryz.F115_s0 (e_t1 : GEvent) (t33 : Int) (t74 : Bool) : Bool := (if t74 = true then (decide ((e_t1.Name.size : Int) ≤ 4096)) else (if (t33 == 17) = true then (if (RT.nameOk e_t1.Name) = true then (ident e_t1.Key) else false) else (if (t33 == 20) = true then (numR e_t1.Key).2 else (if (t33 == 26) = true then (ident e_t1.Key) else (if (t33 == 33) = true then (decide ((e_t1.Name.size : Int) ≤ 64)) else true)))))
theorem Tryz.e115_s0 (e_t1 : GEvent) (t33 : Int) (t74 : Bool) (h : evok e_t1) : Ev Tryz.c115 (.s0 e_t1 t33 t74) (Tryz.F115_s0 e_t1 t33 t74) := Ev.intro (U.ite_if (fun hc => U.ke_ret rfl) (fun hc => U.ite_if (fun hc => U.run_call  _ (VU.m159 _) (U.ite_if (fun hc => U.run_call  _ (ZR.m169 _ h.k) (U.ke_ret rfl)) (fun hc => U.ke_ret rfl))) (fun hc => U.ite_if (fun hc => U.run_call  _ (ZR.m171 _ h.k) (U.ke_ret rfl)) (fun hc => U.ite_if (fun hc => U.run_call  _ (ZR.m169 _ h.k) (U.ke_ret rfl)) (fun hc => U.ite_if (fun hc => U.ke_ret rfl) (fun hc => U.ke_ret rfl))))))
def Tryz.F115 (e_0 : GEvent) : Bool := (if (!(rng e_0.Kind 1 35)) = true then false else (if (!(rng e_0.ID 0 2000)) = true then false else (if (!(rng e_0.Time 0 1099511627776)) = true then false else (if (!(Tryz.F167 e_0)) = true then false else (if (decide (0 < cmdOf e_0.Kind)) = true then (Tryz.F104 (Tryz.F168 e_0)) else (if (e_0.Kind == 1) = true then (if (RT.nameOk e_0.Name) = true then (if (ident e_0.Key) = true then (if ((right e_0.Data && inp e_0.Data)) = true then (rng e_0.N 0 4294967295) else false) else false) else false) else (if (e_0.Kind == 2) = true then (decide (1 ≤ e_0.N)) else (if (e_0.Kind == 5) = true then (rng e_0.Code 1 30) else (if (e_0.Kind == 8) = true then (rng e_0.N 1 1000) else (if (e_0.Kind == 11) = true then (rng e_0.Code 1 4) else (if (e_0.Kind == 10) = true then (Tryz.F115_s0 e_0 e_0.Kind true) else (if (e_0.Kind == 22) = true then (Tryz.F115_s0 e_0 e_0.Kind true) else (Tryz.F115_s0 e_0 e_0.Kind (e_0.Kind == 25))))))))))))))
theorem Tryz.p115 (e_0 : GEvent) (h : evok e_0) : Tryz.m115.R e_0 (Tryz.F115 e_0) := U.run_call  _ (ZR.m166 _ _ _) (U.ite_if (fun hc => U.ke_ret rfl) (fun hc => U.run_call  _ (ZR.m166 _ _ _) (U.ite_if (fun hc => U.ke_ret rfl) (fun hc => U.run_call  _ (ZR.m166 _ _ _) (U.ite_if (fun hc => U.ke_ret rfl) (fun hc => U.run_call  _ (Tryz.p167 _ h) (U.ite_if (fun hc => U.ke_ret rfl) (fun hc => U.run_call  _ (ZR.m112 _) (U.ite_if (fun hc => U.run_call  _ (Tryz.p168 _) (U.run_call  _ (Tryz.p104 _ (⟨h.d, h.o, h.k⟩ : cmok _)) (U.ke_ret rfl))) (fun hc => U.ite_if (fun hc => U.run_call  _ (VU.m159 _) (U.ite_if (fun hc => U.run_call  _ (ZR.m169 _ h.k) (U.ite_if (fun hc => U.run_call  _ (ZR.m170 _ h.d) (U.ite_if (fun hc => U.run_call  _ (ZR.m166 _ _ _) (U.ke_ret rfl)) (fun hc => U.ke_ret rfl))) (fun hc => U.ke_ret rfl))) (fun hc => U.ke_ret rfl))) (fun hc => U.ite_if (fun hc => U.ke_ret rfl) (fun hc => U.ite_if (fun hc => U.run_call  _ (ZR.m166 _ _ _) (U.ke_ret rfl)) (fun hc => U.ite_if (fun hc => U.run_call  _ (ZR.m166 _ _ _) (U.ke_ret rfl)) (fun hc => U.ite_if (fun hc => U.run_call  _ (ZR.m166 _ _ _) (U.ke_ret rfl)) (fun hc => U.ite_if (fun hc => U.ke_jump (Tryz.e115_s0 e_0 e_0.Kind true h)) (fun hc => U.ite_if (fun hc => U.ke_jump (Tryz.e115_s0 e_0 e_0.Kind true h)) (fun hc => U.ke_jump (Tryz.e115_s0 e_0 e_0.Kind (e_0.Kind == 25) h))))))))))))))))))
def Tryz.F172 (kind_0 : Int) : (Int × Bool) := (if (kind_0 == 30) = true then (1, true) else (if (kind_0 == 31) = true then (2, true) else (if (kind_0 == 32) = true then (3, true) else (if (kind_0 == 33) = true then (4, true) else (if (kind_0 == 34) = true then (5, true) else (if (kind_0 == 35) = true then (6, true) else (0, false)))))))
theorem Tryz.p172 (kind_0 : Int) : Tryz.m172.R kind_0 (Tryz.F172 kind_0) := U.ite_if (fun hc => U.ke_ret rfl) (fun hc => U.ite_if (fun hc => U.ke_ret rfl) (fun hc => U.ite_if (fun hc => U.ke_ret rfl) (fun hc => U.ite_if (fun hc => U.ke_ret rfl) (fun hc => U.ite_if (fun hc => U.ke_ret rfl) (fun hc => U.ite_if (fun hc => U.ke_ret rfl) (fun hc => U.ke_ret rfl))))))
def Tryz.F82 (a_0 : GAct) : GAct := (GAct.mk a_0.Seq a_0.Event a_0.Name a_0.Data a_0.Opts 1 1 a_0.Scheduled a_0.Scheduled 0 0 0 a_0.Cancel zV eB)
theorem Tryz.p82 (a_0 : GAct) : Tryz.m82.R a_0 (Tryz.F82 a_0) := U.ke_ret rfl
def ZR.knowsR (p : GPending) (id : ByteArray) : Bool := p.Requests.any fun a => strEq a id
theorem ZR.m35 (n : Nat) (p : GPending) (id : ByteArray) (h : pokc n p) : Tryz.m35.R (p, id) (knowsR p id) := by
  refine U.ke_jump ?_
  unfold knowsR
  rw [← Bool.or_false (List.any _ _)]
  refine U.ev_any p.Requests (fun i => Tryz.J35.s0 id p i) (fun a => strEq a id) false (big h.k.nr h.n) (U.run_len (U.run_f U.dec_f (U.ke_ret rfl))) ?_
  intro i hi ht hw x hx hm r ih
  exact U.run_len (U.run_t ht (U.run_elemX hi hx (U.or_f fun hp => U.ke_jump (by rw [hw]; exact ih hp))))
end Go.Proofs
end
noncomputable section
namespace Go.AV.T
open Go U
attribute [local irreducible] Runs
section
variable {P : Program} {J Y : Type} {cert : J → Cert P J Y} {Q : Y → Prop}
def T {P : Program} {J Y : Type} (cert : J → Cert P J Y) (c : Cert P J Y) (Q : Y → Prop) : Prop := ∃ y, Runs c (KE cert y) ∧ Q y
def TJ {P : Program} {J Y : Type} (cert : J → Cert P J Y) (j : J) (Q : Y → Prop) : Prop := ∃ y, Ev cert j y ∧ Q y
theorem ret {y : Y} (h : Q y) : T cert (.ret y) Q := ⟨y, ke_ret rfl, h⟩
theorem jump {j : J} {r : List (Nat × Nat)} (h : TJ cert j Q) : T cert (.jump j r) Q := let ⟨y, h1, h2⟩ := h; ⟨y, ke_jump h1, h2⟩
theorem ev {j : J} (h : T cert (cert j) Q) : TJ cert j Q := let ⟨y, h1, h2⟩ := h; ⟨y, Ev.intro h1, h2⟩
theorem ite {t : Nat} {b : Bool} {c d : Cert P J Y} (h1 : b = true → T cert c Q) (h2 : b = false → T cert d Q) : T cert (.ite t b c d) Q := by
  cases b
  · obtain ⟨y, h3, h4⟩ := h2 rfl; exact ⟨y, run_f rfl h3, h4⟩
  · obtain ⟨y, h3, h4⟩ := h1 rfl; exact ⟨y, run_t rfl h3, h4⟩
theorem tt {t : Nat} {b : Bool} {c d : Cert P J Y} (h : b = true) (h1 : T cert c Q) : T cert (.ite t b c d) Q := let ⟨y, h3, h4⟩ := h1; ⟨y, run_t h h3, h4⟩
theorem ff {t : Nat} {b : Bool} {c d : Cert P J Y} (h : b = false) (h1 : T cert d Q) : T cert (.ite t b c d) Q := let ⟨y, h3, h4⟩ := h1; ⟨y, run_f h h3, h4⟩
theorem call {f : FuncId} {A B : Type} {M : Mir P f A B} {x : A} {k : B → Cert P J Y} (y : B) (hr : M.R x y) (h : T cert (k y) Q) : T cert (.call M x k) Q := let ⟨z, h1, h2⟩ := h; ⟨z, U.run_call y hr h1, h2⟩
theorem callx {f : FuncId} {A B : Type} {M : Mir P f A B} {x : A} {k : B → Cert P J Y} {S : B → Prop} (hr : ∃ y, M.R x y ∧ S y) (h : ∀ y, S y → T cert (k y) Q) : T cert (.call M x k) Q := let ⟨y, h1, h2⟩ := hr; call y h1 (h y h2)
theorem len {α : Type} {E : Enc α} {xs : List α} {k : Cert P J Y} (h : T cert k Q) : T cert (.len E xs k) Q := let ⟨y, h1, h2⟩ := h; ⟨y, run_len h1, h2⟩
theorem bld {α : Type} {E : Enc α} {xs : List α} {k : Cert P J Y} (h : T cert k Q) : T cert (.bld E xs k) Q := let ⟨y, h1, h2⟩ := h; ⟨y, run_bld h1, h2⟩
theorem app {α : Type} {E : Enc α} {b : Nat} {xs ys : List α} {k : Cert P J Y} (hl : (xs.length + ys.length) * b ≤ 140737488355328) (h : T cert k Q) : T cert (.app E b xs ys k) Q := let ⟨y, h1, h2⟩ := h; ⟨y, run_app hl h1, h2⟩
theorem adT {a b c : Nat} {k : Cert P J Y} (h : T cert k Q) : T cert (.adoptT a b c k) Q := let ⟨y, h1, h2⟩ := h; ⟨y, run_adT h1, h2⟩
theorem adB {a b i e s : Nat} {k : Cert P J Y} (h : T cert k Q) : T cert (.adoptB a b i e s k) Q := let ⟨y, h1, h2⟩ := h; ⟨y, run_adB h1, h2⟩
theorem frz {a b : Nat} {k : Cert P J Y} (h : T cert k Q) : T cert (.frz a b k) Q := let ⟨y, h1, h2⟩ := h; ⟨y, run_frz h1, h2⟩
theorem elemX {α : Type} {E : Enc α} {xs : List α} {i : Nat} {x : α} {k : α → Cert P J Y} (h : i < xs.length) (hx : xs[i] = x) (hk : T cert (k x) Q) : T cert (.elem E xs (i : Int) k) Q := let ⟨y, h1, h2⟩ := hk; ⟨y, run_elemX h hx h1, h2⟩
theorem elemP {α : Type} {E : Enc α} {xs : List α} {i : Int} {k : α → Cert P J Y} (h : 0 ≤ i ∧ i.toNat < xs.length) (hk : T cert (k (xs[i.toNat]'h.2)) Q) : T cert (.elem E xs i k) Q := by
  obtain ⟨y, h1, h2⟩ := hk; exact ⟨y, run_elemP i.toNat (by omega) h.2 h1, h2⟩
theorem idx {α : Type} {E : Enc α} {xs : List α} {i : Int} {k : Cert P J Y} (h : 0 ≤ i ∧ i.toNat < xs.length) (hk : T cert k Q) : T cert (.idx E xs i k) Q := by
  obtain ⟨y, h1, h2⟩ := hk
  obtain ⟨n, rfl⟩ : ∃ n : Nat, i = (n : Int) := ⟨i.toNat, by omega⟩
  exact ⟨y, run_idx h.2 h1, h2⟩
theorem eset {α : Type} {E : Enc α} {xs : List α} {i : Int} {f : α → α} {k : Cert P J Y} (h : 0 ≤ i ∧ i.toNat < xs.length) (hk : T cert k Q) : T cert (.eset E xs i.toNat f k) Q := by
  obtain ⟨y, h1, h2⟩ := hk
  obtain ⟨n, rfl⟩ : ∃ n : Nat, i = (n : Int) := ⟨i.toNat, by omega⟩
  exact ⟨y, run_eset h.2 h1, h2⟩
theorem cut {α : Type} {E : Enc α} {xs : List α} {l h : Int} {k : Cert P J Y} (h1 : 0 ≤ l ∧ l ≤ h ∧ h ≤ (xs.length : Int)) (hk : T cert k Q) : T cert (.cut E xs l h k) Q := let ⟨y, h2, h3⟩ := hk; ⟨y, U.run_cut h1 h2, h3⟩
theorem done {R : Y → Prop} {v : Y} (h : ∃ y, R y ∧ y = v) : R v := by obtain ⟨y, h1, rfl⟩ := h; exact h1
theorem loop {α σ : Type} (xs : List α) (pl : Int → σ → J) (I : Nat → σ → Prop) (hb : xs.length ≤ 4611686018427387904) (hend : ∀ s, I xs.length s → T cert (cert (pl xs.length s)) Q)
    (hstep : ∀ (i : Nat) (h : i < xs.length) s, I i s → IntKind.i64.wrap ((i : Int) + 1) = ((i + 1 : Nat) : Int) → decide ((i : Int) < (xs.length : Int)) = true →
      ∀ x, xs[i] = x → x ∈ xs → (∀ s', I (i + 1) s' → TJ cert (pl ((i + 1 : Nat) : Int) s') Q) → T cert (cert (pl i s)) Q) (k : Nat) (hk : k ≤ xs.length) (s : σ) (hs : I k s) : TJ cert (pl k s) Q := by
  have key : ∀ n i : Nat, n + i = xs.length → ∀ s, I i s → TJ cert (pl i s) Q := by
    intro n
    induction n with
    | zero => intro i hi s hs; have : i = xs.length := by omega
              subst this; exact ev (hend s hs)
    | succ n ih => intro i hi s hs; exact ev (hstep i (by omega) s hs (wsucc (n := xs.length) (by omega) hb) (dec_t (by omega)) _ rfl (List.getElem_mem _) (fun s' h' => ih (i + 1) (by omega) s' h'))
  exact key (xs.length - k) k (by omega) s hs
end
end Go.AV.T
end
noncomputable section
set_option maxRecDepth 4000
namespace Go.Proofs
open Go Go.AV VU ZE ZP ZR
attribute [local irreducible] Runs
namespace ZS
theorem m29 (n : Nat) (p : GPending) (q : Int) (h : pokc n p) : Tryz.m29.R (p, q) (actOf p q) := by
  refine U.run_jump ?_
  show Ev _ _ _
  unfold actOf
  refine (U.ev_for p.Acts (fun i (_ : Unit) => Tryz.J29.s0 q p az i) (fun _ _ => True) (fun l _ => pick1 (fun a => a.Seq == q) az l) (big h.k.na h.n) ?_ ?_ () trivial :)
  · intro _ _; exact U.run_len (U.run_f U.dec_f (U.run_ret rfl))
  · intro i hi _ _ hw ht x r hx hm y hy ih
    refine U.run_len (U.run_t ht (U.run_elemX hi hx (U.run_ite (fun hb => U.run_elemX hi hx (U.run_ret ?_)) (fun hb => U.run_jump ?_))))
    · show _ = _
      rw [hy, pick1, if_pos hb]
    · show Ev _ _ _
      rw [hw]; refine ih () trivial ?_
      rw [hy, pick1, if_neg (by rw [hb]; decide)]
theorem m30 (n : Nat) (p : GPending) (q : Int) (h : pokc n p) : Tryz.m30.R (p, q) (timerOf p q) := by
  refine U.run_jump ?_
  show Ev _ _ _
  unfold timerOf
  refine (U.ev_for p.Timers (fun i (_ : Unit) => Tryz.J30.s0 q p tz i) (fun _ _ => True) (fun l _ => pick1 (fun a => a.Seq == q) tz l) (big h.k.nt h.n) ?_ ?_ () trivial :)
  · intro _ _; exact U.run_len (U.run_f U.dec_f (U.run_ret rfl))
  · intro i hi _ _ hw ht x r hx hm y hy ih
    refine U.run_len (U.run_t ht (U.run_elemX hi hx (U.run_ite (fun hb => U.run_elemX hi hx (U.run_ret ?_)) (fun hb => U.run_jump ?_))))
    · show _ = _
      rw [hy, pick1, if_pos hb]
    · show Ev _ _ _
      rw [hw]; refine ih () trivial ?_
      rw [hy, pick1, if_neg (by rw [hb]; decide)]
theorem m31 (n : Nat) (p : GPending) (q : Int) (h : pokc n p) : Tryz.m31.R (p, q) (kidOf p q) := by
  refine U.run_jump ?_
  show Ev _ _ _
  unfold kidOf
  refine (U.ev_for p.Kids (fun i (_ : Unit) => Tryz.J31.s0 q p kz i) (fun _ _ => True) (fun l _ => pick1 (fun a => a.Seq == q) kz l) (big h.k.nk h.n) ?_ ?_ () trivial :)
  · intro _ _; exact U.run_len (U.run_f U.dec_f (U.run_ret rfl))
  · intro i hi _ _ hw ht x r hx hm y hy ih
    refine U.run_len (U.run_t ht (U.run_elemX hi hx (U.run_ite (fun hb => U.run_elemX hi hx (U.run_ret ?_)) (fun hb => U.run_jump ?_))))
    · show _ = _
      rw [hy, pick1, if_pos hb]
    · show Ev _ _ _
      rw [hw]; refine ih () trivial ?_
      rw [hy, pick1, if_neg (by rw [hb]; decide)]
theorem m32 (n : Nat) (p : GPending) (q : Int) (h : pokc n p) : Tryz.m32.R (p, q) (sendOf p q) := by
  refine U.run_jump ?_
  show Ev _ _ _
  unfold sendOf
  refine (U.ev_for p.Sends (fun i (_ : Unit) => Tryz.J32.s0 q p sz i) (fun _ _ => True) (fun l _ => pick1 (fun a => a.Seq == q) sz l) (big h.k.ns h.n) ?_ ?_ () trivial :)
  · intro _ _; exact U.run_len (U.run_f U.dec_f (U.run_ret rfl))
  · intro i hi _ _ hw ht x r hx hm y hy ih
    refine U.run_len (U.run_t ht (U.run_elemX hi hx (U.run_ite (fun hb => U.run_elemX hi hx (U.run_ret ?_)) (fun hb => U.run_jump ?_))))
    · show _ = _
      rw [hy, pick1, if_pos hb]
    · show Ev _ _ _
      rw [hw]; refine ih () trivial ?_
      rw [hy, pick1, if_neg (by rw [hb]; decide)]
theorem m37 (n : Nat) (p : GPending) (h : pokc n p) : Tryz.m37.R p (bare p) := by
  refine U.run_adT (U.run_jump ?_)
  show Ev _ _ _
  refine (U.ev_for p.Acts (fun i (o : List GAct) => Tryz.J37.s0 p pz o i) (fun i o => o.length = i) (fun l o => withActs p (o ++ l.map sched)) (big h.k.na h.n) ?_ ?_ [] rfl :)
  · intro o _; rw [List.map_nil, List.append_nil]; exact U.run_len (U.run_f U.dec_f (U.run_ret rfl))
  · intro i hi o ho hw ht x r hx hm y hy ih
    have h1 := h.k.na; have h2 := h.n
    refine U.run_len (U.run_t ht (U.run_elemX hi hx (U.run_call _ (Tryz.p82 x) (U.run_bld (U.run_app (by rw [List.length_singleton]; omega) (U.run_jump ?_))))))
    show Ev _ _ _
    rw [hw]; refine ih (o ++ [sched x]) (by simp [ho]) ?_
    rw [hy]; simp
theorem m36 (n : Nat) (p : GPending) (a : GAct) (h : pokc n p) : Tryz.m36.R (p, a) (setAct p a) := by
  have e : (actOf p a.Seq).2 = p.Acts.any fun x => x.Seq == a.Seq := by
    unfold actOf
    rcases pick1_idx (fun x : GAct => x.Seq == a.Seq) az p.Acts 0 (by decide) with ⟨_, h2, h3⟩ | ⟨k, hk, _, h2, h3, _⟩
    · rw [h2, h3]
    · rw [h2]; exact (List.any_eq_true.2 ⟨_, List.getElem_mem hk, h3⟩).symm
  refine U.run_call _ (m29 n p a.Seq h) ?_
  rw [e]
  unfold setAct
  cases hb : p.Acts.any fun x => x.Seq == a.Seq
  · exact U.run_t rfl (U.run_ret rfl)
  · refine U.run_f rfl (U.run_adT (U.run_jump ?_))
    show Ev _ _ _
    rw [if_pos rfl]
    refine (U.ev_for p.Acts (fun i (s : List GAct × Bool) => Tryz.J36.s0 p a pz s.1 s.2 i) (fun i s => s.1.length = i) (fun l s => (withActs p (s.1 ++ if s.2 = true then l else repl1 (fun x => x.Seq == a.Seq) a l), true)) (big h.k.na h.n) ?_ ?_ ([], false) rfl :)
    · intro s _
      refine U.run_len (U.run_f U.dec_f (U.run_ret ?_))
      show _ = _
      cases s.2 <;> simp [repl1] <;> rfl
    · intro i hi s hs hw ht x r hx hm y hy ih
      obtain ⟨o, d⟩ := s
      have h1 := h.k.na; have h2 := h.n
      have hs' : o.length = i := hs
      refine U.run_len (U.run_t ht (U.run_elemX hi hx (U.run_ite (fun hb => U.run_jump (Ev.intro ?_)) (fun hb => U.run_jump (Ev.intro ?_)))))
      · cases d
        · refine U.run_t rfl (U.run_bld (U.run_app (by show (o.length + 1) * _ ≤ _; omega) (U.run_jump ?_)))
          show Ev _ _ _
          rw [hw]; refine ih (o ++ [a], true) (by simp [hs']) ?_
          rw [hy, if_pos rfl]; simp [repl1, hb]
        · refine U.run_f rfl (U.run_elemX hi hx (U.run_bld (U.run_app (by show (o.length + 1) * _ ≤ _; omega) (U.run_jump ?_))))
          show Ev _ _ _
          rw [hw]; refine ih (o ++ [x], true) (by simp [hs']) ?_
          rw [hy, if_pos rfl]; simp
      · refine U.run_f rfl (U.run_elemX hi hx (U.run_bld (U.run_app (by show (o.length + 1) * _ ≤ _; omega) (U.run_jump ?_))))
        show Ev _ _ _
        rw [hw]; refine ih (o ++ [x], d) (by simp [hs']) ?_
        rw [hy]; cases d <;> simp [repl1, hb]
structure pokx (n : Nat) (p : GPending) : Prop where
  c : pokc n p
  l : p.Attrs.Keys.length ≤ p.Attrs.Items.length
  m : p.Attrs.Items.length ≤ 6000 * n
structure evx (e : GEvent) : Prop where
  k : evok e
  i : e.Data.Items.length ≤ 6000
  f : e.Opts.Fatal.length * 16 ≤ reachBytes
theorem pz_x {n : Nat} (hn : n ≤ 100000) : pokx n pz := ⟨⟨⟨vz_ok, vz_ok, by simp [pz], Nat.zero_le _, Nat.zero_le _, Nat.zero_le _, Nat.zero_le _, Nat.zero_le _, Nat.zero_le _⟩, by simp [pz], hn⟩, Nat.zero_le _, Nat.zero_le _⟩
theorem grow {n : Nat} {p : GPending} (h : pokx n p) (hn : n + 1 ≤ 100000) {x1 x2 x3 x4 x5 x6 : Int} {nm : ByteArray} {c : Bool} {la : List GAct} {ts : List GTimer} {ks : List GKid} {ss : List GSend} {us : List GUpd} {rs : List ByteArray}
    (ha : ∀ x ∈ la, aokc x) (h1 : la.length ≤ n + 1 := by first | assumption | (simp only [List.length_append, List.length_nil, List.length_singleton, List.length_modify]; omega) | omega) (h2 : ts.length ≤ n + 1 := by first | assumption | (simp only [List.length_append, List.length_nil, List.length_singleton, List.length_modify]; omega) | omega) (h3 : ks.length ≤ n + 1 := by first | assumption | (simp only [List.length_append, List.length_nil, List.length_singleton, List.length_modify]; omega) | omega) (h4 : ss.length ≤ n + 1 := by first | assumption | (simp only [List.length_append, List.length_nil, List.length_singleton, List.length_modify]; omega) | omega) (h5 : us.length ≤ n + 1 := by first | assumption | (simp only [List.length_append, List.length_nil, List.length_singleton, List.length_modify]; omega) | omega) (h6 : rs.length ≤ n + 1 := by first | assumption | (simp only [List.length_append, List.length_nil, List.length_singleton, List.length_modify]; omega) | omega) :
    pokx (n + 1) (GPending.mk x1 x2 x3 x4 x5 x6 nm p.Input p.Attrs c la ts ks ss us rs) :=
  ⟨⟨⟨h.c.k.i, h.c.k.t, fun x hx => (ha x hx).k, h1, h2, h3, h4, h5, h6⟩, ha, hn⟩, h.l, by have := h.m; show p.Attrs.Items.length ≤ _; omega⟩
theorem same {n : Nat} {p : GPending} (h : pokx n p) (hn : n + 1 ≤ 100000) : pokx (n + 1) p := by
  have h1 := h.c.k.na; have h2 := h.c.k.nt; have h3 := h.c.k.nk; have h4 := h.c.k.ns; have h5 := h.c.k.nu; have h6 := h.c.k.nr
  have := grow h hn (x1 := p.Next) (x2 := p.Status) (x3 := p.Task) (x4 := p.TaskID) (x5 := p.Attempt) (x6 := p.Seq) (nm := p.Name) (c := p.Cancel) h.c.f (by omega : p.Acts.length ≤ n + 1) (by omega : p.Timers.length ≤ n + 1) (by omega : p.Kids.length ≤ n + 1) (by omega : p.Sends.length ≤ n + 1) (by omega : p.Updates.length ≤ n + 1) (by omega : p.Requests.length ≤ n + 1)
  exact this
abbrev Step (R : GPending × GEvent → GPending × Int → Prop) : Prop := ∀ (n : Nat) (p : GPending) (e : GEvent), pokx n p → n + 1 ≤ 100000 → evx e → e.Data.Keys.length ≤ e.Data.Items.length → ∃ y, R (p, e) y ∧ pokx (n + 1) y.1
structure lens (n : Nat) (p : GPending) : Prop where
  a : p.Acts.length ≤ n
  t : p.Timers.length ≤ n
  k : p.Kids.length ≤ n
  s : p.Sends.length ≤ n
  u : p.Updates.length ≤ n
  r : p.Requests.length ≤ n
theorem pokx.lens {n : Nat} {p : GPending} (h : pokx n p) : lens n p := ⟨h.c.k.na, h.c.k.nt, h.c.k.nk, h.c.k.ns, h.c.k.nu, h.c.k.nr⟩
theorem x173 : Step Tryz.m173.R := by
  intro n p e hp hn he hk
  have q1 := hp.c.k.na; have q2 := hp.c.k.nt; have q3 := hp.c.k.nk; have q4 := hp.c.k.ns; have q5 := hp.c.k.nu; have q6 := hp.c.k.nr; have q7 := hp.c.f; have q8 := hp.c.n
  have z0 : ∀ t4 w, T.TJ Tryz.c173 (.s0 p e t4 w) (fun y => pokx (n + 1) y.1) := fun t4 w => T.ev (T.ite (fun _ => T.ret (pz_x hn)) (fun _ => T.ite (fun _ => T.ret (pz_x hn)) (fun _ => T.ite (fun _ => T.ret (grow hp hn q7)) (fun _ => T.ite (fun _ => T.ret (grow hp hn q7)) (fun _ => T.ret (grow hp hn q7))))))
  exact T.ite (fun _ => T.ite (fun _ => T.ret (pz_x hn)) (fun _ => T.ret (grow hp hn q7))) (fun _ => T.ite (fun _ => T.jump (z0 _ _)) (fun _ => T.jump (z0 _ _)))
theorem x174 : Step Tryz.m174.R := by
  intro n p e hp hn he hk
  have q1 := hp.c.k.na; have q2 := hp.c.k.nt; have q3 := hp.c.k.nk; have q4 := hp.c.k.ns; have q5 := hp.c.k.nu; have q6 := hp.c.k.nr; have q7 := hp.c.f; have q8 := hp.c.n
  have z0 : ∀ t4 w, T.TJ Tryz.c174 (.s0 (GPending.mk p.Next p.Status p.Task p.TaskID p.Attempt e.Seq p.Name p.Input p.Attrs p.Cancel p.Acts p.Timers p.Kids p.Sends p.Updates p.Requests) e t4 w) (fun y => pokx (n + 1) y.1) :=
    fun t4 w => T.ev (T.bld (T.app (by show (0 + p.Timers.length) * _ ≤ _; omega) (T.bld (T.app (by show (([] ++ p.Timers).length + 1) * _ ≤ _; rw [List.nil_append]; omega) (T.ret (grow hp hn q7))))))
  have hs : aokc (sched (GAct.mk e.Seq e.ID e.Name e.Data e.Opts 0 0 e.Time 0 0 0 0 false vz (⟨#[]⟩ : ByteArray))) := ⟨⟨he.k.d, he.k.o, vz_ok⟩, he.f⟩
  refine T.ite (fun _ => T.ret (pz_x hn)) (fun _ => T.ite (fun _ => ?_) (fun _ => T.ite (fun _ => T.ite (fun _ => T.jump (z0 _ _)) (fun _ => T.jump (z0 _ _))) (fun _ => T.ite (fun _ => ?_) (fun _ => ?_))))
  · refine T.bld (T.app (by show (0 + p.Acts.length) * _ ≤ _; omega) (T.call _ (Tryz.p82 _) (T.bld (T.app (by show (([] ++ p.Acts).length + 1) * _ ≤ _; rw [List.nil_append]; omega) (T.ret (grow hp hn ?_))))))
    intro x hx
    simp only [List.nil_append, List.mem_append, List.mem_singleton] at hx
    rcases hx with hx | hx
    · exact q7 x hx
    · rw [hx]; exact hs
  · exact T.bld (T.app (by show (0 + p.Kids.length) * _ ≤ _; omega) (T.bld (T.app (by show (([] ++ p.Kids).length + 1) * _ ≤ _; rw [List.nil_append]; omega) (T.ret (grow hp hn q7)))))
  · exact T.bld (T.app (by show (0 + p.Sends.length) * _ ≤ _; omega) (T.bld (T.app (by show (([] ++ p.Sends).length + 1) * _ ≤ _; rw [List.nil_append]; omega) (T.ret (grow hp hn q7)))))
theorem x180 : Step Tryz.m180.R := by
  intro n p e hp hn he hk
  have q1 := hp.c.k.na; have q2 := hp.c.k.nt; have q3 := hp.c.k.nk; have q4 := hp.c.k.ns; have q5 := hp.c.k.nu; have q6 := hp.c.k.nr; have q7 := hp.c.f; have q8 := hp.c.n
  exact T.call _ (ZR.m35 n _ _ hp.c) (T.ite (fun _ => T.ret (pz_x hn)) (fun _ => T.bld (T.app (by show (0 + p.Requests.length) * _ ≤ _; omega) (T.bld (T.app (by show (([] ++ p.Requests).length + 1) * _ ≤ _; rw [List.nil_append]; omega) (T.ite (fun _ => T.ret (grow hp hn q7)) (fun _ => T.ret (grow hp hn q7))))))))
theorem x176 : Step Tryz.m176.R := by
  intro n p e hp hn he hk
  have q1 := hp.c.k.na; have q2 := hp.c.k.nt; have q3 := hp.c.k.nk; have q4 := hp.c.k.ns; have q5 := hp.c.k.nu; have q6 := hp.c.k.nr; have q7 := hp.c.f; have q8 := hp.c.n
  refine T.call _ (m30 n p e.Seq hp.c) (T.ite (fun _ => T.ret (pz_x hn)) (fun _ => T.ite (fun _ => T.ret (pz_x hn)) (fun _ => T.adT (T.jump ?_))))
  refine T.loop p.Timers (fun i (o : List GTimer) => Tryz.J176.s0 p e pz o i) (fun i o => o.length ≤ i) (by omega) ?_ ?_ 0 (Nat.zero_le _) [] (Nat.le_refl _)
  · intro o ho
    exact T.len (T.ff U.dec_f (T.ret (grow hp hn q7)))
  · intro i hi o ho hw ht x hx hm ih
    refine T.len (T.tt ht (T.elemX hi hx (T.ite (fun _ => T.elemX hi hx (T.bld (T.app (by show (o.length + 1) * _ ≤ _; omega) (T.jump ?_)))) (fun _ => T.jump ?_))))
    · rw [hw]; exact ih _ (by simp; omega)
    · rw [hw]; exact ih _ (by omega)
theorem x178 : Step Tryz.m178.R := by
  intro n p e hp hn he hk
  have q1 := hp.c.k.na; have q2 := hp.c.k.nt; have q3 := hp.c.k.nk; have q4 := hp.c.k.ns; have q5 := hp.c.k.nu; have q6 := hp.c.k.nr; have q7 := hp.c.f; have q8 := hp.c.n
  refine T.call _ (m32 n p e.Seq hp.c) (T.ite (fun _ => T.ret (pz_x hn)) (fun _ => T.ite (fun _ => T.ret (pz_x hn)) (fun _ => T.adT (T.jump ?_))))
  refine T.loop p.Sends (fun i (o : List GSend) => Tryz.J178.s0 p e pz o i) (fun i o => o.length ≤ i) (by omega) ?_ ?_ 0 (Nat.zero_le _) [] (Nat.le_refl _)
  · intro o ho
    exact T.len (T.ff U.dec_f (T.ret (grow hp hn q7)))
  · intro i hi o ho hw ht x hx hm ih
    refine T.len (T.tt ht (T.elemX hi hx (T.ite (fun _ => T.elemX hi hx (T.bld (T.app (by show (o.length + 1) * _ ≤ _; omega) (T.jump ?_)))) (fun _ => T.jump ?_))))
    · rw [hw]; exact ih _ (by simp; omega)
    · rw [hw]; exact ih _ (by omega)
theorem x175 : Step Tryz.m175.R := by
  intro n p e hp hn he hk
  have q1 := hp.c.k.na; have q2 := hp.c.k.nt; have q3 := hp.c.k.nk; have q4 := hp.c.k.ns; have q5 := hp.c.k.nu; have q6 := hp.c.k.nr; have q7 := hp.c.f; have q8 := hp.c.n
  refine T.call _ (m29 n p e.Seq hp.c) (T.ite (fun _ => T.ret (pz_x hn)) (fun _ => T.ite (fun _ => T.ret (pz_x hn)) (fun _ => T.ite (fun _ => T.ret (same hp hn)) (fun _ => T.ite (fun _ => T.call _ (m36 n p _ hp.c) (T.ret ?_)) (fun _ => T.adT (T.jump ?_))))))
  · show pokx (n + 1) (setAct p _).1
    have ha := actOf_ok hp.c e.Seq
    unfold setAct
    split
    · have hl : ∀ (a : GAct) (l : List GAct), (repl1 (fun x => x.Seq == (actOf p e.Seq).1.Seq) a l).length = l.length := by
        intro a l
        induction l with
        | nil => rfl
        | cons x r ih => unfold repl1; split <;> simp [ih]
      have hm : ∀ (a : GAct) (l : List GAct) x, x ∈ repl1 (fun x => x.Seq == (actOf p e.Seq).1.Seq) a l → x = a ∨ x ∈ l := by
        intro a l
        induction l with
        | nil => intro x hx; simp [repl1] at hx
        | cons z r ih =>
          intro x hx; unfold repl1 at hx; split at hx
          · simp at hx; rcases hx with hx | hx <;> simp [hx]
          · simp at hx; rcases hx with hx | hx
            · simp [hx]
            · rcases ih x hx with h | h <;> simp [h]
      refine grow hp hn ?_ (by rw [hl]; omega)
      intro x hx
      rcases hm _ _ x hx with h | h
      · rw [h]; exact ⟨⟨ha.k.d, ha.k.o, ha.k.e⟩, ha.f⟩
      · exact q7 x h
    · exact pz_x hn
  · refine T.loop p.Acts (fun i (o : List GAct) => Tryz.J175.s0 p e pz o i) (fun i o => o.length ≤ i ∧ ∀ x ∈ o, aokc x) (by omega) ?_ ?_ 0 (Nat.zero_le _) [] ⟨Nat.le_refl _, by simp⟩
    · intro o ho
      have := ho.1
      exact T.len (T.ff U.dec_f (T.ret (grow hp hn ho.2)))
    · intro i hi o ho hw ht x hx hm ih
      have := ho.1
      refine T.len (T.tt ht (T.elemX hi hx (T.ite (fun _ => T.elemX hi hx (T.bld (T.app (by show (o.length + 1) * _ ≤ _; omega) (T.jump ?_)))) (fun _ => T.jump ?_))))
      · rw [hw]; exact ih _ ⟨by simp; omega, by intro z hz; simp at hz; rcases hz with hz | hz; exact ho.2 z hz; rw [hz]; exact q7 x hm⟩
      · rw [hw]; exact ih _ ⟨by omega, ho.2⟩
theorem x177 : Step Tryz.m177.R := by
  intro n p e hp hn he hk
  have q1 := hp.c.k.na; have q2 := hp.c.k.nt; have q3 := hp.c.k.nk; have q4 := hp.c.k.ns; have q5 := hp.c.k.nu; have q6 := hp.c.k.nr; have q7 := hp.c.f; have q8 := hp.c.n
  have z1 : ∀ (k : Nat), k = 0 → T.TJ Tryz.c177 (.s1 p e pz [] (k : Int)) (fun y => pokx (n + 1) y.1) := by
    intro k hk0
    refine T.loop p.Kids (fun i (o : List GKid) => Tryz.J177.s1 p e pz o i) (fun i o => o.length ≤ i) (by omega) ?_ ?_ k (by omega) [] (Nat.zero_le _)
    · intro o ho
      exact T.len (T.ff U.dec_f (T.ret (grow hp hn q7)))
    · intro i hi o ho hw ht x hx hm ih
      have z3 : ∀ z b, T.TJ Tryz.c177 (.s3 p e pz o (i : Int) z b) (fun y => pokx (n + 1) y.1) := by
        intro z b
        refine T.ev (T.ite (fun _ => T.bld (T.app (by show (o.length + 1) * _ ≤ _; omega) (T.jump ?_))) (fun _ => T.jump ?_))
        · rw [hw]; exact ih _ (by simp; omega)
        · rw [hw]; exact ih _ (by omega)
      have z2 : ∀ z, T.TJ Tryz.c177 (.s2 p e pz o (i : Int) z) (fun y => pokx (n + 1) y.1) := fun z => T.ev (T.ite (fun _ => T.jump (z3 _ _)) (fun _ => T.jump (z3 _ _)))
      exact T.len (T.tt ht (T.elemX hi hx (T.ite (fun _ => T.ite (fun _ => T.jump (z2 _)) (fun _ => T.jump (z2 _))) (fun _ => T.jump (z2 _)))))
  have z0 : T.TJ Tryz.c177 (.s0 p e pz) (fun y => pokx (n + 1) y.1) := T.ev (T.adT (T.jump (z1 0 rfl)))
  exact T.call _ (m31 n p e.Seq hp.c) (T.ite (fun _ => T.ret (pz_x hn)) (fun _ => T.ite (fun _ => T.ret (pz_x hn)) (fun _ => T.ite (fun _ => T.ite (fun _ => T.ret (pz_x hn)) (fun _ => T.jump z0)) (fun _ => T.jump z0))))
theorem x214 (n : Nat) (p : GPending) (k : ByteArray) (h : pokc n p) : ∃ y, Tryz.m214.R (p, k) y ∧ (0 ≤ y → y.toNat < p.Updates.length) := by
  have := h.k.nu; have := h.n
  refine T.jump ?_
  refine T.loop p.Updates (fun i (_ : Unit) => Tryz.J214.s0 k p i) (fun _ _ => True) (by omega) ?_ ?_ 0 (Nat.zero_le _) () trivial
  · intro _ _; exact T.len (T.ff U.dec_f (T.ret (by omega)))
  · intro i hi _ _ hw ht x hx hm ih
    refine T.len (T.tt ht (T.elemX hi hx (T.ite (fun _ => T.ret (by omega)) (fun _ => T.jump ?_))))
    rw [hw]; exact ih () trivial
theorem x179 : Step Tryz.m179.R := by
  intro n p e hp hn he hk
  have q1 := hp.c.k.na; have q2 := hp.c.k.nt; have q3 := hp.c.k.nk; have q4 := hp.c.k.ns; have q5 := hp.c.k.nu; have q6 := hp.c.k.nr; have q7 := hp.c.f; have q8 := hp.c.n
  refine T.callx (x214 n p e.Key hp.c) fun y hy => T.bld (T.app (by show (0 + p.Updates.length) * _ ≤ _; omega) ?_)
  refine T.ite (fun _ => T.ite (fun _ => T.ret (pz_x hn)) (fun _ => T.bld (T.app (by show (([] ++ p.Updates).length + 1) * _ ≤ _; rw [List.nil_append]; omega) (T.ret (grow hp hn q7))))) (fun _ => T.ite (fun _ => T.ret (pz_x hn)) (fun hb => ?_))
  have h0 : 0 ≤ y := by have := of_decide_eq_false hb; omega
  have h1 := hy h0
  exact T.elemP ⟨h0, h1⟩ (T.ite (fun _ => T.ret (pz_x hn)) (fun _ => T.idx ⟨h0, by rw [List.nil_append]; exact h1⟩ (T.eset ⟨h0, by rw [List.nil_append]; exact h1⟩ (T.ret (grow hp hn q7)))))
theorem gI (a b : Int) (c : ByteArray) (d : List GVal) (e : List ByteArray) : (GVal.mk a b c d e).Items = d := rfl
theorem gK (a b : Int) (c : ByteArray) (d : List GVal) (e : List ByteArray) : (GVal.mk a b c d e).Keys = e := rfl
theorem x215 (v : GVal) (k : ByteArray) (x : GVal) (hv : v.ok) (hk : k.size ≤ reachBytes) (hx : x.ok) (hl : v.Keys.length ≤ v.Items.length) (hm : v.Items.length ≤ 700000000) : ∃ y, Tryz.m215.R (v, k, x) y ∧ (y.ok ∧ y.Keys.length ≤ y.Items.length ∧ y.Items.length ≤ v.Items.length + 1) := by
  obtain ⟨hI, _⟩ := GVal.okI hv
  have hK := (GVal.okK hv).1
  have hr := reach_eq
  let Q : GVal → Prop := fun y => y.ok ∧ y.Keys.length ≤ y.Items.length ∧ y.Items.length ≤ v.Items.length + 1
  let I : Nat → GVal × Bool → Prop := fun i s => s.1.Kind = 5 ∧ s.1.Num = 0 ∧ s.1.Text = ⟨#[]⟩ ∧ (∀ z ∈ s.1.Items, z.ok) ∧ (∀ z ∈ s.1.Keys, z.size ≤ reachBytes) ∧ s.1.Keys.length = s.1.Items.length ∧ s.1.Items.length ≤ i + (if s.2 = true then 1 else 0)
  have fin : ∀ (w : GVal), w.Kind = 5 → w.Num = 0 → w.Text = ⟨#[]⟩ → (∀ z ∈ w.Items, z.ok) → (∀ z ∈ w.Keys, z.size ≤ reachBytes) → w.Keys.length = w.Items.length → w.Items.length ≤ v.Items.length + 1 → Q w := by
    intro w h1 h2 h3 h4 h5 h6 h7
    refine ⟨?_, by omega, h7⟩
    cases w with | mk a b c is ks =>
    subst h1 h2 h3
    have h7' : is.length ≤ v.Items.length + 1 := h7
    have h6' : ks.length = is.length := h6
    exact ⟨by decide, by decide, Nat.zero_le _, ⟨(GVal.oks_iff is).2 h4, by omega⟩, ⟨h5, by omega⟩, trivial⟩
  refine T.adB (T.adB (T.jump ?_))
  refine T.loop v.Keys (fun i (s : GVal × Bool) => Tryz.J215.s0 k v x vz s.1 s.2 i) I (by omega) ?_ ?_ 0 (Nat.zero_le _) (GVal.mk 5 0 (⟨#[]⟩ : ByteArray) [] [], false) ⟨rfl, rfl, rfl, by simp [gI], by simp [gK], rfl, Nat.zero_le _⟩
  · rintro ⟨o, d⟩ ⟨h1, h2, h3, h4, h5, h6, h7⟩
    simp only at h1 h2 h3 h4 h5 h6 h7
    refine T.len (T.ff U.dec_f ?_)
    cases d
    · simp only [Bool.false_eq_true, if_false] at h7
      refine T.tt rfl (T.bld (T.app (by show (o.Keys.length + 1) * _ ≤ _; omega) (T.bld (T.app (by show (o.Items.length + 1) * _ ≤ _; omega) (T.ret (fin _ h1 h2 h3 ?_ ?_ (by simp [gI, gK, h6]) (by simp [gI]; omega)))))))
      · intro z hz; simp [gI, gK] at hz; rcases hz with hz | hz; exact h4 z hz; rw [hz]; exact hx
      · intro z hz; simp [gI, gK] at hz; rcases hz with hz | hz; exact h5 z hz; rw [hz]; exact hk
    · simp only [if_true] at h7
      exact T.ff rfl (T.ret (fin _ h1 h2 h3 h4 h5 h6 (by show o.Items.length ≤ _; omega)))
  · rintro i hi ⟨o, d⟩ ⟨h1, h2, h3, h4, h5, h6, h7⟩ hw ht a ha hm' ih
    simp only at h1 h2 h3 h4 h5 h6 h7
    have hi2 : i < v.Items.length := by omega
    have hd : (if d = true then 1 else 0) ≤ 1 := by cases d <;> decide
    have z2 : ∀ (o : GVal) (d : Bool), I i (o, d) → T.TJ Tryz.c215 (.s2 k v x vz o d (i : Int)) Q := by
      rintro o d ⟨h1, h2, h3, h4, h5, h6, h7⟩
      simp only at h1 h2 h3 h4 h5 h6 h7
      have hd : (if d = true then 1 else 0) ≤ 1 := by cases d <;> decide
      refine T.ev (T.elemX hi ha (T.ite (fun _ => T.elemX hi ha (T.bld (T.app (by show (o.Keys.length + 1) * _ ≤ _; omega) (T.elemX hi2 rfl (T.bld (T.app (by show (o.Items.length + 1) * _ ≤ _; omega) (T.jump ?_))))))) (fun _ => T.jump ?_)))
      · rw [hw]
        refine ih (GVal.mk o.Kind o.Num o.Text (o.Items ++ [v.Items[i]]) (o.Keys ++ [a]), d) ⟨h1, h2, h3, ?_, ?_, by simp [gI, gK, h6], by simp [gI]; omega⟩
        · intro z hz; simp [gI, gK] at hz; rcases hz with hz | hz; exact h4 z hz; rw [hz]; exact hI _ (List.getElem_mem _)
        · intro z hz; simp [gI, gK] at hz; rcases hz with hz | hz; exact h5 z hz; rw [hz]; exact hK _ hm'
      · rw [hw]
        exact ih (o, d) ⟨h1, h2, h3, h4, h5, h6, by simp only; omega⟩
    have z1 : ∀ b, (b = true → d = false) → T.TJ Tryz.c215 (.s1 k v x vz o d (i : Int) b) Q := by
      intro b hb
      refine T.ev (T.ite (fun h => ?_) (fun _ => T.jump (z2 o d ⟨h1, h2, h3, h4, h5, h6, h7⟩)))
      have := hb h; subst this
      simp only [Bool.false_eq_true, if_false] at h7
      refine T.bld (T.app (by show (o.Keys.length + 1) * _ ≤ _; omega) (T.bld (T.app (by show (o.Items.length + 1) * _ ≤ _; omega) (T.jump (z2 _ _ ⟨h1, h2, h3, ?_, ?_, by simp [gI, gK, h6], by simp [gI]; omega⟩)))))
      · intro z hz; simp [gI, gK] at hz; rcases hz with hz | hz; exact h4 z hz; rw [hz]; exact hx
      · intro z hz; simp [gI, gK] at hz; rcases hz with hz | hz; exact h5 z hz; rw [hz]; exact hk
    refine T.len (T.tt ht (T.ite (fun hb => T.elemX hi ha (T.jump (z1 _ (fun _ => by cases d; rfl; cases hb)))) (fun _ => T.jump (z1 _ (fun h => by cases h)))))
theorem x181 : Step Tryz.m181.R := by
  intro n p e hp hn he hk
  have q1 := hp.c.k.na; have q2 := hp.c.k.nt; have q3 := hp.c.k.nk; have q4 := hp.c.k.ns; have q5 := hp.c.k.nu; have q6 := hp.c.k.nr; have q7 := hp.c.f; have q8 := hp.c.n
  have hd := he.k.d; have hi6 := he.i; have hr := reach_eq
  obtain ⟨hI, _⟩ := GVal.okI hd
  have hK := (GVal.okK hd).1
  refine T.jump ?_
  refine T.loop e.Data.Keys (fun i (v : GVal) => Tryz.J181.s0 p e pz v i) (fun i v => v.ok ∧ v.Keys.length ≤ v.Items.length ∧ v.Items.length ≤ 6000 * n + i) (by omega) ?_ ?_ 0 (Nat.zero_le _) p.Attrs ⟨hp.c.k.t, hp.l, hp.m⟩
  · rintro v ⟨h1, h2, h3⟩
    refine T.len (T.ff U.dec_f (T.call _ (m158 v h1) (T.ite (fun _ => T.ret (pz_x hn)) (fun _ => T.ret ?_))))
    exact ⟨⟨⟨hp.c.k.i, h1, fun x hx => (q7 x hx).k, Nat.le_succ_of_le q1, Nat.le_succ_of_le q2, Nat.le_succ_of_le q3, Nat.le_succ_of_le q4, Nat.le_succ_of_le q5, Nat.le_succ_of_le q6⟩, q7, hn⟩, h2, by show v.Items.length ≤ _; omega⟩
  · rintro i hi v ⟨h1, h2, h3⟩ hw ht x hx hm ih
    have hi2 : i < e.Data.Items.length := by omega
    refine T.len (T.tt ht (T.elemX hi hx (T.elemX hi2 rfl (T.callx (x215 v x e.Data.Items[i] h1 (hK _ hm) (hI _ (List.getElem_mem _)) h2 (by omega)) fun y hy => T.frz (T.frz (T.jump ?_))))))
    rw [hw]; exact ih y ⟨hy.1, hy.2.1, by have := hy.2.2; omega⟩
theorem x116 : Step Tryz.m116.R := by
  intro n p e hp hn he hk
  have q1 := hp.c.k.na; have q2 := hp.c.k.nt; have q3 := hp.c.k.nk; have q4 := hp.c.k.ns; have q5 := hp.c.k.nu; have q6 := hp.c.k.nr; have q7 := hp.c.f; have q8 := hp.c.n
  let Q : GPending × Int → Prop := fun y => pokx (n + 1) y.1
  have z7 : ∀ t4 t b, T.TJ Tryz.c116 (.s7 p e t4 t b) Q := fun _ _ _ => T.ev (T.ite (fun _ => T.callx (x180 n p e hp hn he hk) fun y hy => T.ret hy) (fun _ => T.ite (fun _ => T.callx (x181 n p e hp hn he hk) fun y hy => T.ret hy) (fun _ => T.ret (same hp hn))))
  have z6 : ∀ t4 t b, T.TJ Tryz.c116 (.s6 p e t4 t b) Q := fun _ _ _ => T.ev (T.ite (fun _ => T.callx (x179 n p e hp hn he hk) fun y hy => T.ret hy) (fun _ => T.ite (fun _ => T.jump (z7 _ _ _)) (fun _ => T.jump (z7 _ _ _))))
  have z5 : ∀ t4 t b, T.TJ Tryz.c116 (.s5 p e t4 t b) Q := fun _ _ _ => T.ev (T.ite (fun _ => T.callx (x178 n p e hp hn he hk) fun y hy => T.ret hy) (fun _ => T.ite (fun _ => T.jump (z6 _ _ _)) (fun _ => T.jump (z6 _ _ _))))
  have z4 : ∀ t4 t b, T.TJ Tryz.c116 (.s4 p e t4 t b) Q := fun _ _ _ => T.ev (T.ite (fun _ => T.callx (x177 n p e hp hn he hk) fun y hy => T.ret hy) (fun _ => T.ite (fun _ => T.jump (z5 _ _ _)) (fun _ => T.jump (z5 _ _ _))))
  have z3 : ∀ t4 t b, T.TJ Tryz.c116 (.s3 p e t4 t b) Q := fun _ _ _ => T.ev (T.ite (fun _ => T.callx (x176 n p e hp hn he hk) fun y hy => T.ret hy) (fun _ => T.ite (fun _ => T.jump (z4 _ _ _)) (fun _ => T.ite (fun _ => T.jump (z4 _ _ _)) (fun _ => T.jump (z4 _ _ _)))))
  have z2 : ∀ t4 t b, T.TJ Tryz.c116 (.s2 p e t4 t b) Q := fun _ _ _ => T.ev (T.ite (fun _ => T.callx (x175 n p e hp hn he hk) fun y hy => T.ret hy) (fun _ => T.ite (fun _ => T.jump (z3 _ _ _)) (fun _ => T.jump (z3 _ _ _))))
  have z1 : ∀ t4 t b, T.TJ Tryz.c116 (.s1 p e t4 t b) Q := fun _ _ _ => T.ev (T.ite (fun _ => T.callx (x174 n p e hp hn he hk) fun y hy => T.ret hy) (fun _ => T.ite (fun _ => T.jump (z2 _ _ _)) (fun _ => T.ite (fun _ => T.jump (z2 _ _ _)) (fun _ => T.ite (fun _ => T.jump (z2 _ _ _)) (fun _ => T.ite (fun _ => T.jump (z2 _ _ _)) (fun _ => T.ite (fun _ => T.jump (z2 _ _ _)) (fun _ => T.jump (z2 _ _ _))))))))
  have z0 : ∀ t4 t b, T.TJ Tryz.c116 (.s0 p e t4 t b) Q := fun _ _ _ => T.ev (T.ite (fun _ => T.callx (x173 n p e hp hn he hk) fun y hy => T.ret hy) (fun _ => T.ite (fun _ => T.jump (z1 _ _ _)) (fun _ => T.ite (fun _ => T.jump (z1 _ _ _)) (fun _ => T.ite (fun _ => T.jump (z1 _ _ _)) (fun _ => T.jump (z1 _ _ _))))))
  exact T.call _ (Tryz.p172 _) (T.ite (fun _ => T.ret (grow hp hn q7)) (fun _ => T.ite (fun _ => T.jump (z0 _ _ _)) (fun _ => T.ite (fun _ => T.jump (z0 _ _ _)) (fun _ => T.ite (fun _ => T.jump (z0 _ _ _)) (fun _ => T.ite (fun _ => T.jump (z0 _ _ _)) (fun _ => T.jump (z0 _ _ _)))))))
theorem right_keys {v : GVal} (h : right v = true) : v.Keys.length ≤ v.Items.length := by
  unfold right at h
  have h2 := (Bool.and_eq_true _ _ ▸ h : _ ∧ _).2
  cases v with | mk k n t is ks =>
  unfold VV.wf at h2
  have h3 := (Bool.and_eq_true _ _ ▸ h2 : _ ∧ _).1
  rw [VV.lens_eq] at h3
  show ks.length ≤ is.length
  unfold VV.base at h3
  (repeat' split at h3) <;> simp only [Bool.and_eq_true, decide_eq_true_eq, Bool.false_eq_true] at h3 <;> omega
theorem F115_data {e : GEvent} (h : Tryz.F115 e = true) : right e.Data = true := by
  have h0 : Tryz.F167 e = true := by
    unfold Tryz.F115 at h
    cases h1 : Tryz.F167 e
    · rw [h1] at h; (repeat' split at h) <;> first | exact h | simp_all
    · rfl
  have z1 : ∀ u, Tryz.F167_s1 e u = true → right e.Data = true := by
    intro u hu; unfold Tryz.F167_s1 at hu
    cases h1 : right e.Data
    · rw [h1] at hu; simp at hu
    · rfl
  have z0 : ∀ u, Tryz.F167_s0 e u = true → right e.Data = true := by
    intro u hu; unfold Tryz.F167_s0 at hu
    (repeat' split at hu) <;> first | exact z1 _ hu | cases hu
  unfold Tryz.F167 at h0
  (repeat' split at h0) <;> first | exact z0 _ h0 | exact z1 _ h0 | cases h0
theorem x58 (n : Nat) (p : GPending) (e : GEvent) (hp : pokx n p) (hn : n + 1 ≤ 100000) (he : evx e) : ∃ y, Tryz.m58.R (p, e) y ∧ pokx (n + 1) y.1 := by
  refine T.call _ (Tryz.p115 e he.k) (T.ite (fun _ => T.ret (pz_x hn)) (fun h1 => T.ite (fun _ => T.ret (pz_x hn)) (fun _ => T.ite (fun _ => T.ret (pz_x hn)) (fun _ => T.ite (fun _ => T.ret (pz_x hn)) (fun _ => ?_)))))
  have hr : Tryz.F115 e = true := by cases h : Tryz.F115 e; rw [h] at h1; cases h1; rfl
  refine T.callx (x116 n p e hp hn he (right_keys (F115_data hr))) fun y hy => T.ite (fun _ => T.ret (pz_x hn)) (fun _ => T.ret ?_)
  exact ⟨⟨⟨hy.c.k.i, hy.c.k.t, hy.c.k.a, hy.c.k.na, hy.c.k.nt, hy.c.k.nk, hy.c.k.ns, hy.c.k.nu, hy.c.k.nr⟩, hy.c.f, hn⟩, hy.l, hy.m⟩
theorem x79 (e : GEvent) (he : evx e) : ∃ y, Tryz.m79.R e y ∧ pokx 1 y.1 := by
  refine T.call _ (Tryz.p115 e he.k) (T.ite (fun _ => T.ret (pz_x (by decide))) (fun h1 => T.ite (fun _ => T.ret (pz_x (by decide))) (fun _ => T.ite (fun _ => T.ret (pz_x (by decide))) (fun _ => T.ret ?_))))
  exact ⟨⟨⟨he.k.d, ⟨by decide, by decide, Nat.zero_le _, ⟨trivial, Nat.zero_le _⟩, ⟨by simp, Nat.zero_le _⟩, trivial⟩, by simp, Nat.zero_le _, Nat.zero_le _, Nat.zero_le _, Nat.zero_le _, Nat.zero_le _, Nat.zero_le _⟩, by simp, by decide⟩, Nat.zero_le _, Nat.zero_le _⟩
theorem x28 (l : List GEvent) (hl : ∀ e ∈ l, evx e) (hn : l.length ≤ 1000) : ∃ y, Tryz.m28.R l y ∧ pokx 1000 y.1 := by
  have up : ∀ {n : Nat} {p : GPending}, pokx n p → n ≤ 1000 → pokx 1000 p := by
    intro n p h hn
    have h1 := h.c.k.na; have h2 := h.c.k.nt; have h3 := h.c.k.nk; have h4 := h.c.k.ns; have h5 := h.c.k.nu; have h6 := h.c.k.nr; have h7 := h.m
    exact ⟨⟨⟨h.c.k.i, h.c.k.t, h.c.k.a, by omega, by omega, by omega, by omega, by omega, by omega⟩, h.c.f, by decide⟩, h.l, by omega⟩
  refine T.len (T.ite (fun _ => T.ret (pz_x (by decide))) (fun h0 => ?_))
  cases l with
  | nil => cases h0
  | cons e r =>
    refine T.elemX (i := 0) (Nat.zero_lt_succ _) rfl (T.callx (x79 e (hl e (by simp))) fun y hy => T.jump ?_)
    have z1 : ∀ t p c, pokx 1000 p → T.TJ Tryz.c28 (.s1 t p c) (fun y => pokx 1000 y.1) := fun t p c h => T.ev (T.ite (fun _ => T.ret (pz_x (by decide))) (fun _ => T.ret h))
    refine T.loop (e :: r) (fun i (s : GPending × Int) => Tryz.J28.s0 (e :: r) pz s.1 s.2 i) (fun i s => pokx i s.1) (by omega) ?_ ?_ 1 (by simp) (y.1, y.2) hy
    · intro s hs; exact T.len (T.ff U.dec_f (T.jump (z1 _ _ _ (up hs hn))))
    · intro i hi s hs hw ht x hx hm ih
      refine T.len (T.tt ht (T.ite (fun _ => T.elemX hi hx (T.callx (x58 i s.1 x hs (by omega) (hl x hm)) fun y hy => T.jump ?_)) (fun _ => T.jump (z1 _ _ _ (up hs (by omega))))))
      rw [hw]; exact ih (y.1, y.2) hy
end ZS
end Go.Proofs
end
noncomputable section
set_option maxRecDepth 4000
namespace Go.Proofs
open Go Go.AV VU ZE ZP ZR
attribute [local irreducible] Runs
namespace ZK
def kf : List ByteArray → Int → Int
  | [], m => m
  | k :: r, m => if decide (0 ≤ m) = true then kf r (IntKind.i64.wrap (m - (k.size : Int))) else m
mutual
def few : GVal → Int → Int
  | .mk _ _ t is ks, m => fews is (kf ks (IntKind.i64.wrap (IntKind.i64.wrap (m - 1) - (t.size : Int))))
def fews : List GVal → Int → Int
  | [], m => m
  | x :: r, m => if decide (0 ≤ m) = true then fews r (few x m) else m
end
theorem few_eq (v : GVal) (m : Int) : few v m = fews v.Items (kf v.Keys (IntKind.i64.wrap (IntKind.i64.wrap (m - 1) - (v.Text.size : Int)))) := by cases v; rfl
theorem few76 : ∀ n (v : GVal) (m : Int), SizeOf.sizeOf v < n → v.ok → (Tryz.n76 n).1 (v, m) (few v m)
  | 0, v, m, h, _ => absurd h (Nat.not_lt_zero _)
  | n + 1, v, m, h, hv => by
    obtain ⟨h1, h2⟩ := GVal.okI hv
    obtain ⟨h3, h4⟩ := GVal.okK hv
    have hs1 : ∀ k, Ev (Tryz.c76 (Tryz.n76 n).1 (Tryz.n76 n).2) (.s1 k v) (fews v.Items k) := by
      intro k
      refine Ev.intro (U.run_jump ?_)
      show Ev _ _ _
      refine (U.ev_for v.Items (fun i k => Tryz.J76.s2 k v i) (fun _ _ => True) (fun l k => fews l k) (reach80 h2) ?_ ?_ k trivial :)
      · intro s _; exact U.run_len (U.run_f U.dec_f (U.run_ret rfl))
      · intro i hi s _ hw ht x r hx hm y hy ih
        refine U.run_len (U.run_t ht (U.run_ite (fun hb => U.run_elemX hi hx (U.run_call _ (few76 n x s (sub h hm) (h1 _ hm)) (U.run_jump ?_))) (fun hb => U.run_ret ?_)))
        · show Ev _ _ _
          rw [hw]; refine ih _ trivial ?_
          rw [hy, fews, if_pos hb]
        · show _ = _
          rw [hy, fews, if_neg (by rw [hb]; decide)]
    rw [few_eq]
    refine U.run_jump ?_
    show Ev _ _ _
    refine (U.ev_for v.Keys (fun i k => Tryz.J76.s0 k v i) (fun _ _ => True) (fun l k => fews v.Items (kf l k)) (reach16 h4) ?_ ?_ _ trivial :)
    · intro s _; exact U.run_len (U.run_f U.dec_f (U.run_jump (hs1 s)))
    · intro i hi s _ hw ht x r hx hm y hy ih
      refine U.run_len (U.run_t ht (U.run_ite (fun hb => U.run_elemX hi hx (U.run_jump ?_)) (fun hb => U.run_jump ?_)))
      · show Ev _ _ _
        rw [hw]; refine ih _ trivial ?_
        rw [hy, kf, if_pos hb]
      · show Ev _ _ _
        rw [hy, kf, if_neg (by rw [hb]; decide)]
        exact hs1 s
theorem m76 (v : GVal) (m : Int) (hv : v.ok) : Tryz.m76.R (v, m) (few v m) := ⟨_, few76 (SizeOf.sizeOf v + 1) v m (Nat.lt_succ_self _) hv⟩
def ml : List ByteArray → Int → Bool
  | [], m => decide (0 ≤ m)
  | x :: r, m => if decide (0 ≤ m) = true then ml r (IntKind.i64.wrap (IntKind.i64.wrap (m - 1) - (x.size : Int))) else decide (0 ≤ m)
def sm (e : GEvent) : Bool := ml e.Opts.Fatal (IntKind.i64.wrap (IntKind.i64.wrap (IntKind.i64.wrap (few e.Data 6000 - (e.Name.size : Int)) - (e.Key.size : Int)) - (e.Opts.Queue.size : Int)))
theorem m25 (e : GEvent) (hd : e.Data.ok) (ho : fatOk e.Opts) : Tryz.m25.R e (sm e) := by
  refine U.run_call _ (m76 e.Data 6000 hd) (U.run_jump ?_)
  show Ev _ _ _
  refine (U.ev_for e.Opts.Fatal (fun i k => Tryz.J25.s0 e k i) (fun _ _ => True) (fun l k => ml l k) ho ?_ ?_ _ trivial :)
  · intro s _; exact U.run_len (U.run_f U.dec_f (U.run_ret rfl))
  · intro i hi s _ hw ht x r hx hm y hy ih
    refine U.run_len (U.run_t ht (U.run_ite (fun hb => U.run_elemX hi hx (U.run_jump ?_)) (fun hb => U.run_ret ?_)))
    · show Ev _ _ _
      rw [hw]; refine ih _ trivial ?_
      rw [hy, ml, if_pos hb]
    · show _ = _
      rw [hy, ml, if_neg (by rw [hb]; decide)]
def sgo (n : Nat) : Int → List GEvent → Bool
  | _, [] => decide ((n : Int) ≤ 60)
  | i, x :: r => if decide (i ≤ 60) = true then (if (!sm x) = true then false else sgo n (i + 1) r) else decide ((n : Int) ≤ 60)
def sml (l : List GEvent) : Bool := sgo l.length 0 l
theorem m14 (l : List GEvent) (hl : l.length ≤ 4611686018427387904) (h : ∀ e ∈ l, e.Data.ok ∧ fatOk e.Opts) : Tryz.m14.R l (sml l) := by
  refine U.run_jump ?_
  show Ev _ _ _
  refine (U.ev_for l (fun i (_ : Nat) => Tryz.J14.s0 l i) (fun i k => k = i) (fun r k => sgo l.length k r) hl ?_ ?_ 0 rfl :)
  · intro s _; exact U.run_len (U.run_f U.dec_f (U.run_len (U.run_ret rfl)))
  · intro i hi k hk hw ht x r hx hm y hy ih
    subst hk
    refine U.run_len (U.run_t ht (U.run_ite (fun hb => U.run_elemX hi hx (U.run_call _ (m25 x (h x hm).1 (h x hm).2) (U.run_ite (fun hc => U.run_ret ?_) (fun hc => U.run_jump ?_)))) (fun hb => U.run_len (U.run_ret ?_))))
    · show _ = _
      rw [hy, sgo, if_pos hb, if_pos hc]
    · show Ev _ _ _
      rw [hw]; refine ih (k + 1) rfl ?_
      rw [hy, sgo, if_pos hb, if_neg (by rw [hc]; decide)]; rfl
    · show _ = _
      rw [hy, sgo, if_neg (by rw [hb]; decide)]
theorem kf_le : ∀ (ks : List ByteArray) (m : Int), (∀ k ∈ ks, k.size ≤ reachBytes) → -281474976710656 ≤ m → m ≤ 6000 → -281474976710656 ≤ kf ks m ∧ kf ks m ≤ m
  | [], m, _, h1, _ => ⟨h1, Int.le_refl _⟩
  | k :: r, m, h, h1, h2 => by
    have hk := h k (by simp); rw [reach_eq] at hk
    unfold kf
    split
    · rename_i h0
      have h0 := of_decide_eq_true h0
      have hw : IntKind.i64.wrap (m - (k.size : Int)) = m - k.size := by rw [w64] <;> omega
      rw [hw]
      have := kf_le r (m - k.size) (fun x hx => h x (by simp [hx])) (by omega) (by omega)
      omega
    · exact ⟨h1, Int.le_refl _⟩
mutual
theorem few_le : ∀ (v : GVal) (m : Int), v.ok → 0 ≤ m → m ≤ 6000 → -281474976710656 ≤ few v m ∧ few v m ≤ m - 1
  | .mk a b t is ks, m, hv, h1, h2 => by
    obtain ⟨_, _, ht, ⟨hi, _⟩, ⟨hk, _⟩, _⟩ := hv
    rw [reach_eq] at ht
    have hw : IntKind.i64.wrap (IntKind.i64.wrap (m - 1) - (t.size : Int)) = m - 1 - t.size := by rw [w64 (m - 1)] <;> (try rw [w64]) <;> omega
    unfold few
    rw [hw]
    have h3 := kf_le ks (m - 1 - t.size) hk (by omega) (by omega)
    have h4 := fews_le is (kf ks (m - 1 - t.size)) hi h3.1 (by omega)
    omega
theorem fews_le : ∀ (l : List GVal) (m : Int), GVal.oks l → -281474976710656 ≤ m → m ≤ 6000 → -281474976710656 ≤ fews l m ∧ fews l m ≤ m ∧ (0 ≤ fews l m → (l.length : Int) ≤ m)
  | [], m, _, h1, _ => ⟨h1, Int.le_refl _, fun h => h⟩
  | x :: r, m, h, h1, h2 => by
    unfold fews
    split
    · rename_i h0
      have h0 := of_decide_eq_true h0
      have h3 := few_le x m h.1 h0 h2
      have h4 := fews_le r (few x m) h.2 h3.1 (by omega)
      refine ⟨h4.1, by omega, fun h => ?_⟩
      have := h4.2.2 h
      rw [List.length_cons]; omega
    · rename_i h0
      have h0 : ¬ 0 ≤ m := fun h => h0 (decide_eq_true h)
      exact ⟨h1, Int.le_refl _, fun h => absurd h h0⟩
end
theorem ml_le : ∀ (l : List ByteArray) (m : Int), (∀ k ∈ l, k.size ≤ reachBytes) → m ≤ 6000 → ml l m = true → 0 ≤ m ∧ (l.length : Int) ≤ m
  | [], m, _, _, h => by have := of_decide_eq_true h; exact ⟨this, this⟩
  | x :: r, m, hk, h1, h => by
    have hx := hk x (by simp); rw [reach_eq] at hx
    unfold ml at h
    split at h
    · rename_i h0
      have h0 := of_decide_eq_true h0
      have hw : IntKind.i64.wrap (IntKind.i64.wrap (m - 1) - (x.size : Int)) = m - 1 - x.size := by rw [w64 (m - 1)] <;> (try rw [w64]) <;> omega
      rw [hw] at h
      have := ml_le r _ (fun z hz => hk z (by simp [hz])) (by omega) h
      exact ⟨h0, by rw [List.length_cons]; omega⟩
    · rename_i h0; exact absurd h h0
theorem sm_x {e : GEvent} (he : e.ok) (h : sm e = true) : ZS.evx e := by
  obtain ⟨_, _, _, _, _, _, _, hn, hk, hd, ho, _⟩ := he
  obtain ⟨hq, _, _, _, _, _, _, _, _, hf, _⟩ := ho
  rw [reach_eq] at hn hk hq
  have h1 := few_le e.Data 6000 hd (by decide) (by decide)
  unfold sm at h
  have hw : IntKind.i64.wrap (IntKind.i64.wrap (IntKind.i64.wrap (few e.Data 6000 - (e.Name.size : Int)) - (e.Key.size : Int)) - (e.Opts.Queue.size : Int)) = few e.Data 6000 - e.Name.size - e.Key.size - e.Opts.Queue.size := by
    rw [w64 (few e.Data 6000 - (e.Name.size : Int))] <;> (try rw [w64 (few e.Data 6000 - (e.Name.size : Int) - (e.Key.size : Int))]) <;> (try rw [w64]) <;> omega
  rw [hw] at h
  have h2 := ml_le _ _ hf.1 (by omega) h
  refine ⟨⟨hd, ?_, by omega⟩, ?_, hf.2⟩
  · show e.Opts.Fatal.length ≤ _; omega
  · have h3 : 0 ≤ few e.Data 6000 := by omega
    have h4 := few_eq e.Data 6000
    obtain ⟨hI, _⟩ := GVal.okI hd
    have hK := (GVal.okK hd).1
    cases hdat : e.Data with | mk a b t is ks =>
    rw [hdat] at hd h3
    obtain ⟨_, _, ht, ⟨hi, _⟩, ⟨hk', _⟩, _⟩ := hd
    rw [reach_eq] at ht
    unfold few at h3
    have hw : IntKind.i64.wrap (IntKind.i64.wrap (6000 - 1) - (t.size : Int)) = 5999 - t.size := by rw [w64 (6000 - 1)] <;> (try rw [w64]) <;> omega
    rw [hw] at h3
    have h5 := kf_le ks (5999 - t.size) hk' (by omega) (by omega)
    have h6 := (fews_le is _ hi h5.1 (by omega)).2.2 h3
    show is.length ≤ 6000
    omega
theorem sgo_x (n : Nat) : ∀ (l : List GEvent) (i : Nat), i + l.length = n → sgo n i l = true → n ≤ 60 ∧ ∀ e ∈ l, sm e = true
  | [], i, h, hs => ⟨by have := of_decide_eq_true hs; omega, by simp⟩
  | x :: r, i, h, hs => by
    rw [List.length_cons] at h
    unfold sgo at hs
    split at hs
    · split at hs
      · cases hs
      · rename_i h1 h2
        have := sgo_x n r (i + 1) (by omega) hs
        refine ⟨this.1, fun e he => ?_⟩
        rcases List.mem_cons.1 he with he | he
        · subst he; cases h3 : sm e
          · rw [h3] at h2; exact absurd rfl h2
          · rfl
        · exact this.2 e he
    · rename_i h1
      have h2 := of_decide_eq_true hs
      exact absurd (decide_eq_true (by omega)) h1
theorem sml_x {l : List GEvent} (h : sml l = true) : l.length ≤ 60 ∧ ∀ e ∈ l, sm e = true := sgo_x _ l 0 (by omega) h
end ZK
end Go.Proofs
end
