/- Texts AvTRz. -/
import Derived.KernelRfl
import Derived.Test.YtlgnflbekdldnaaGreatDoorProg
import Derived.Test.YtlgnflbekdldnaaGreatDoorAvK24
set_option linter.unusedVariables false
set_option linter.unusedSimpArgs false
set_option linter.unusedSectionVars false
noncomputable section
namespace Go.Proofs
open Go Go.AV
theorem Tryz.z2 : zeroOf Tryz.prog 2 = some (.int .i64 0) := by kernel_rfl
theorem Tryz.z3 : zeroOf Tryz.prog 3 = some (.int .i64 0) := by kernel_rfl
theorem Tryz.z4 : zeroOf Tryz.prog 4 = some (.bool false) := by kernel_rfl
theorem Tryz.z5 : zeroOf Tryz.prog 5 = some (.int .u8 0) := by kernel_rfl
theorem Tryz.z6 : zeroOf Tryz.prog 6 = some (.int .u8 0) := by kernel_rfl
theorem Tryz.ti47 : tiOf Tryz.prog 47 = some ⟨true, 32, 376, [(0, 1, 3), (1, 1, 3), (2, 1, 9), (3, 5, 28), (8, 10, 41), (18, 1, 3), (19, 1, 3), (20, 1, 3), (21, 1, 3), (22, 1, 3), (23, 1, 3), (24, 1, 3), (25, 1, 4), (26, 5, 28), (31, 1, 9)], .struct⟩ := by kernel_rfl
theorem Tryz.z47 : zeroOf Tryz.prog 47 = some (.agg #[.int .i64 0, .int .i64 0, .string ByteArray.empty, .int .i64 0, .int .i64 0, .string ByteArray.empty, .slice none 0 0, .slice none 0 0, .string ByteArray.empty, .int .i64 0, .int .i64 0, .int .i64 0, .int .i64 0, .int .i64 0, .int .i64 0, .int .i64 0, .int .i64 0, .slice none 0 0, .int .i64 0, .int .i64 0, .int .i64 0, .int .i64 0, .int .i64 0, .int .i64 0, .int .i64 0, .bool false, .int .i64 0, .int .i64 0, .string ByteArray.empty, .slice none 0 0, .slice none 0 0, .string ByteArray.empty]) := by kernel_rfl
theorem Tryz.in47 : (Tryz.prog.info? 47).isSome = true := by kernel_rfl
theorem Tryz.ti49 : tiOf Tryz.prog 49 = some ⟨true, 3, 24, [(0, 1, 3), (1, 1, 3), (2, 1, 3)], .struct⟩ := by kernel_rfl
theorem Tryz.z49 : zeroOf Tryz.prog 49 = some (.agg #[.int .i64 0, .int .i64 0, .int .i64 0]) := by kernel_rfl
theorem Tryz.in49 : (Tryz.prog.info? 49).isSome = true := by kernel_rfl
theorem Tryz.ti51 : tiOf Tryz.prog 51 = some ⟨true, 6, 72, [(0, 1, 3), (1, 1, 3), (2, 1, 9), (3, 1, 9), (4, 1, 3), (5, 1, 9)], .struct⟩ := by kernel_rfl
theorem Tryz.z51 : zeroOf Tryz.prog 51 = some (.agg #[.int .i64 0, .int .i64 0, .string ByteArray.empty, .string ByteArray.empty, .int .i64 0, .string ByteArray.empty]) := by kernel_rfl
theorem Tryz.in51 : (Tryz.prog.info? 51).isSome = true := by kernel_rfl
theorem Tryz.ti53 : tiOf Tryz.prog 53 = some ⟨true, 4, 48, [(0, 1, 3), (1, 1, 3), (2, 1, 9), (3, 1, 9)], .struct⟩ := by kernel_rfl
theorem Tryz.z53 : zeroOf Tryz.prog 53 = some (.agg #[.int .i64 0, .int .i64 0, .string ByteArray.empty, .string ByteArray.empty]) := by kernel_rfl
theorem Tryz.in53 : (Tryz.prog.info? 53).isSome = true := by kernel_rfl
theorem Tryz.follow : Tryz.prog.follows .mixedOrders = true := by kernel_rfl
section
variable {w : World} {H : Type} {enc : TypeId × Value → H}
theorem Tryz.cells43 : Tryz.prog.cellsOf 43 = 24 := by kernel_rfl
theorem Tryz.bytes43 : Tryz.prog.bytesOf 43 = 272 := by kernel_rfl
theorem Tryz.cells3 : Tryz.prog.cellsOf 3 = 1 := by kernel_rfl
theorem Tryz.cells9 : Tryz.prog.cellsOf 9 = 1 := by kernel_rfl
theorem Tryz.bytes9 : Tryz.prog.bytesOf 9 = 16 := by kernel_rfl
theorem Tryz.cells28 : Tryz.prog.cellsOf 28 = 5 := by kernel_rfl
theorem Tryz.bytes28 : Tryz.prog.bytesOf 28 = 80 := by kernel_rfl
theorem Tryz.cells25 : Tryz.prog.cellsOf 25 = 1 := by kernel_rfl
theorem Tryz.cells26 : Tryz.prog.cellsOf 26 = 1 := by kernel_rfl
theorem Tryz.open28 (n : Nat) : Opens enc Tryz.prog w n 28 GVal.cs GVal.ok := by
  induction n with
  | zero => exact opens_zero
  | succ n ih =>
    refine (opens_st Tryz.underlying28 Tryz.cells28 (opensF_c Tryz.cells3 rfl (fun z => rfl) (opens_int Tryz.underlying3) (opensF_c Tryz.cells3 rfl (fun z => rfl) (opens_int Tryz.underlying3) (opensF_c Tryz.cells9 rfl (fun z => rfl) (opens_string Tryz.underlying9) (opensF_c Tryz.cells25 rfl (fun z => rfl) (opens_sl Tryz.underlying25 Tryz.cells28 Tryz.bytes28 (by decide) (fun z => rfl) ih) (opensF_c Tryz.cells26 rfl (fun z => rfl) (opens_sl Tryz.underlying26 Tryz.cells9 Tryz.bytes9 (by decide) (fun z => rfl) (opens_string Tryz.underlying9)) opensF_nil))))) (fun z => rfl)).to (fun z => .mk z.1 z.2.1 z.2.2.1 z.2.2.2.1 z.2.2.2.2.1) (fun z => ?_) (fun z h => ?_)
    · simp only [GVal.cs, GVal.Kind, GVal.Num, GVal.Text, GVal.Items, GVal.Keys, GVal.css_map]
      rfl
    · simp only [GVal.ok, GVal.oks_iff]
      exact h
theorem Tryz.cells41 : Tryz.prog.cellsOf 41 = 10 := by kernel_rfl
theorem Tryz.open41 (n : Nat) : Opens enc Tryz.prog w n 41 GPolicy.cs GPolicy.ok := by
  cases n with
  | zero => exact opens_zero
  | succ n => exact (opens_st Tryz.underlying41 Tryz.cells41 (opensF_c Tryz.cells9 rfl (fun z => rfl) (opens_string Tryz.underlying9) (opensF_c Tryz.cells3 rfl (fun z => rfl) (opens_int Tryz.underlying3) (opensF_c Tryz.cells3 rfl (fun z => rfl) (opens_int Tryz.underlying3) (opensF_c Tryz.cells3 rfl (fun z => rfl) (opens_int Tryz.underlying3) (opensF_c Tryz.cells3 rfl (fun z => rfl) (opens_int Tryz.underlying3) (opensF_c Tryz.cells3 rfl (fun z => rfl) (opens_int Tryz.underlying3) (opensF_c Tryz.cells3 rfl (fun z => rfl) (opens_int Tryz.underlying3) (opensF_c Tryz.cells3 rfl (fun z => rfl) (opens_int Tryz.underlying3) (opensF_c Tryz.cells3 rfl (fun z => rfl) (opens_int Tryz.underlying3) (opensF_c Tryz.cells26 rfl (fun z => rfl) (opens_sl Tryz.underlying26 Tryz.cells9 Tryz.bytes9 (by decide) (fun z => rfl) (opens_string Tryz.underlying9)) opensF_nil)))))))))) (fun z => rfl)).to (fun z => ⟨z.1, z.2.1, z.2.2.1, z.2.2.2.1, z.2.2.2.2.1, z.2.2.2.2.2.1, z.2.2.2.2.2.2.1, z.2.2.2.2.2.2.2.1, z.2.2.2.2.2.2.2.2.1, z.2.2.2.2.2.2.2.2.2.1⟩) (fun z => (by first | rfl | (simp only [GPolicy.cs, GVal.css_map]; rfl))) (fun z h => h)
theorem Tryz.open43 (n : Nat) : Opens enc Tryz.prog w n 43 GEvent.cs GEvent.ok := by
  cases n with
  | zero => exact opens_zero
  | succ n => exact (opens_st Tryz.underlying43 Tryz.cells43 (opensF_c Tryz.cells3 rfl (fun z => rfl) (opens_int Tryz.underlying3) (opensF_c Tryz.cells3 rfl (fun z => rfl) (opens_int Tryz.underlying3) (opensF_c Tryz.cells3 rfl (fun z => rfl) (opens_int Tryz.underlying3) (opensF_c Tryz.cells3 rfl (fun z => rfl) (opens_int Tryz.underlying3) (opensF_c Tryz.cells3 rfl (fun z => rfl) (opens_int Tryz.underlying3) (opensF_c Tryz.cells3 rfl (fun z => rfl) (opens_int Tryz.underlying3) (opensF_c Tryz.cells3 rfl (fun z => rfl) (opens_int Tryz.underlying3) (opensF_c Tryz.cells9 rfl (fun z => rfl) (opens_string Tryz.underlying9) (opensF_c Tryz.cells9 rfl (fun z => rfl) (opens_string Tryz.underlying9) (opensF_c Tryz.cells28 rfl (fun z => rfl) (Tryz.open28 n) (opensF_c Tryz.cells41 rfl (fun z => rfl) (Tryz.open41 n) opensF_nil))))))))))) (fun z => rfl)).to (fun z => ⟨z.1, z.2.1, z.2.2.1, z.2.2.2.1, z.2.2.2.2.1, z.2.2.2.2.2.1, z.2.2.2.2.2.2.1, z.2.2.2.2.2.2.2.1, z.2.2.2.2.2.2.2.2.1, z.2.2.2.2.2.2.2.2.2.1, z.2.2.2.2.2.2.2.2.2.2.1⟩) (fun z => (by first | rfl | (simp only [GEvent.cs, GVal.css_map]; rfl))) (fun z h => h)
theorem Tryz.opensl22 (n : Nat) : Opens enc Tryz.prog w n 22 (fun zs : List GEvent => [.sl (zs.map GEvent.cs)]) (fun zs => (∀ z ∈ zs, GEvent.ok z) ∧ zs.length * 272 ≤ reachBytes) := (opens_sl Tryz.underlying22 Tryz.cells43 Tryz.bytes43 (by decide) (fun z => rfl) (Tryz.open43 n))
theorem Tryz.cells47 : Tryz.prog.cellsOf 47 = 32 := by kernel_rfl
theorem Tryz.cells4 : Tryz.prog.cellsOf 4 = 1 := by kernel_rfl
theorem Tryz.open47 (n : Nat) : Opens enc Tryz.prog w n 47 GAct.cs GAct.ok := by
  cases n with
  | zero => exact opens_zero
  | succ n => exact (opens_st Tryz.underlying47 Tryz.cells47 (opensF_c Tryz.cells3 rfl (fun z => rfl) (opens_int Tryz.underlying3) (opensF_c Tryz.cells3 rfl (fun z => rfl) (opens_int Tryz.underlying3) (opensF_c Tryz.cells9 rfl (fun z => rfl) (opens_string Tryz.underlying9) (opensF_c Tryz.cells28 rfl (fun z => rfl) (Tryz.open28 n) (opensF_c Tryz.cells41 rfl (fun z => rfl) (Tryz.open41 n) (opensF_c Tryz.cells3 rfl (fun z => rfl) (opens_int Tryz.underlying3) (opensF_c Tryz.cells3 rfl (fun z => rfl) (opens_int Tryz.underlying3) (opensF_c Tryz.cells3 rfl (fun z => rfl) (opens_int Tryz.underlying3) (opensF_c Tryz.cells3 rfl (fun z => rfl) (opens_int Tryz.underlying3) (opensF_c Tryz.cells3 rfl (fun z => rfl) (opens_int Tryz.underlying3) (opensF_c Tryz.cells3 rfl (fun z => rfl) (opens_int Tryz.underlying3) (opensF_c Tryz.cells3 rfl (fun z => rfl) (opens_int Tryz.underlying3) (opensF_c Tryz.cells4 rfl (fun z => rfl) (opens_bool Tryz.underlying4) (opensF_c Tryz.cells28 rfl (fun z => rfl) (Tryz.open28 n) (opensF_c Tryz.cells9 rfl (fun z => rfl) (opens_string Tryz.underlying9) opensF_nil))))))))))))))) (fun z => rfl)).to (fun z => ⟨z.1, z.2.1, z.2.2.1, z.2.2.2.1, z.2.2.2.2.1, z.2.2.2.2.2.1, z.2.2.2.2.2.2.1, z.2.2.2.2.2.2.2.1, z.2.2.2.2.2.2.2.2.1, z.2.2.2.2.2.2.2.2.2.1, z.2.2.2.2.2.2.2.2.2.2.1, z.2.2.2.2.2.2.2.2.2.2.2.1, z.2.2.2.2.2.2.2.2.2.2.2.2.1, z.2.2.2.2.2.2.2.2.2.2.2.2.2.1, z.2.2.2.2.2.2.2.2.2.2.2.2.2.2.1⟩) (fun z => (by first | rfl | (simp only [GAct.cs, GVal.css_map]; rfl))) (fun z h => h)
end
attribute [go_sem] Tryz.ti47 Tryz.ti49 Tryz.ti51 Tryz.ti53 Tryz.z2 Tryz.z3 Tryz.z4 Tryz.z5 Tryz.z6 Tryz.z47 Tryz.z49 Tryz.z51 Tryz.z53 Tryz.in47 Tryz.in49 Tryz.in51 Tryz.in53
end Go.Proofs
end
