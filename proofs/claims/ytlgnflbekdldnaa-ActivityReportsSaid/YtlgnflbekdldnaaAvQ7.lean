/- The drawn numbers: plain facts. -/
import Derived.Test.YtlgnflbekdldnaaAvQ2
set_option linter.unusedVariables false
namespace Go.AV.JT
theorem i64w {n : Int} (h : -9223372036854775808 ≤ n ∧ n ≤ 9223372036854775807) : IntKind.i64.wrap n = n := (wrap_iff .i64 n).2 h
theorem u64w {n : Int} (h : 0 ≤ n ∧ n ≤ 18446744073709551615) : IntKind.u64.wrap n = n := (wrap_iff .u64 n).2 h
/-- The bytes that put appends. -/
def pbk (n : Int) : Nat → List Int
  | 0 => []
  | k + 1 => IntKind.u8.wrap (Int.fdiv n (2 ^ (min (((8 * k : Nat) : Int)).toNat 64))) :: pbk n k
/-- The bytes that eight writes from the back. -/
def by8 : Nat → Int → List Int
  | 0, _ => []
  | k + 1, u => by8 k (u / 256) ++ [u % 256]
def bytes (n : Int) : List Int := pbk n 8
theorem pbk_len (n : Int) : ∀ k, (pbk n k).length = k
  | 0 => rfl
  | k + 1 => by rw [pbk, List.length_cons, pbk_len n k]
theorem pbk_bnd (n : Int) : ∀ k, ∀ z ∈ pbk n k, 0 ≤ z ∧ z < 256
  | 0, z, h => by simp [pbk] at h
  | k + 1, z, h => by
    simp only [pbk, List.mem_cons] at h
    rcases h with rfl | h
    · rw [IntKind.wrap_u8]; omega
    · exact pbk_bnd n k z h
theorem fd (n : Int) (k : Nat) : Int.fdiv n (2 ^ k) = n / 2 ^ k := Int.fdiv_eq_ediv_of_nonneg _ (Int.le_of_lt (by exact_mod_cast Nat.two_pow_pos k))
theorem bytes_by8 (n : Int) : by8 8 (IntKind.u64.wrap n) = bytes n := by
  have e : ∀ x : Int, IntKind.u8.wrap x = x % 256 := IntKind.wrap_u8
  have p7 : (2 : Int) ^ (min (((8 * 7 : Nat) : Int)).toNat 64) = 72057594037927936 := by decide
  have p6 : (2 : Int) ^ (min (((8 * 6 : Nat) : Int)).toNat 64) = 281474976710656 := by decide
  have p5 : (2 : Int) ^ (min (((8 * 5 : Nat) : Int)).toNat 64) = 1099511627776 := by decide
  have p4 : (2 : Int) ^ (min (((8 * 4 : Nat) : Int)).toNat 64) = 4294967296 := by decide
  have p3 : (2 : Int) ^ (min (((8 * 3 : Nat) : Int)).toNat 64) = 16777216 := by decide
  have p2 : (2 : Int) ^ (min (((8 * 2 : Nat) : Int)).toNat 64) = 65536 := by decide
  have p1 : (2 : Int) ^ (min (((8 * 1 : Nat) : Int)).toNat 64) = 256 := by decide
  have p0 : (2 : Int) ^ (min (((8 * 0 : Nat) : Int)).toNat 64) = 1 := by decide
  simp only [bytes, pbk, fd]
  simp only [by8, e, IntKind.wrap_u64, List.nil_append, List.cons_append, p7, p6, p5, p4, p3, p2, p1, p0, List.cons.injEq, and_true]
  refine ⟨?_, ?_, ?_, ?_, ?_, ?_, ?_, ?_⟩ <;> omega
/-- One step of the hash. -/
def step (h : Nat) (b : Int) : Nat := ((h ^^^ b.toNat) * 16777619) % 4294967296
def fnv (l : List Int) : Nat := l.foldl step 2166136261
theorem step_lt (h : Nat) (b : Int) : step h b < 4294967296 := Nat.mod_lt _ (by decide)
theorem fold_lt : ∀ (l : List Int) (h : Nat), h < 4294967296 → l.foldl step h < 4294967296
  | [], h, hh => hh
  | b :: l, h, hh => fold_lt l _ (step_lt h b)
theorem fnv_lt (l : List Int) : fnv l < 4294967296 := fold_lt l _ (by decide)
theorem xor32 (h : Nat) (b : Int) (hh : h < 4294967296) (hb : 0 ≤ b ∧ b < 256) : (BitVec.ofInt 32 (h : Int) ^^^ BitVec.ofInt 32 (IntKind.u32.wrap b)).toNat = h ^^^ b.toNat := by
  rw [BitVec.toNat_xor, BitVec.toNat_ofInt, BitVec.toNat_ofInt, IntKind.wrap_u32]
  have e0 : ((2 ^ 32 : Nat) : Int) = 4294967296 := by decide
  have e1 : ((h : Int) % ((2 ^ 32 : Nat) : Int)).toNat = h := by rw [e0]; omega
  have e2 : (b % 4294967296 % ((2 ^ 32 : Nat) : Int)).toNat = b.toNat := by rw [e0]; omega
  rw [e1, e2]
theorem xlt (h : Nat) (b : Int) (hh : h < 4294967296) (hb : 0 ≤ b ∧ b < 256) : h ^^^ b.toNat < 4294967296 := Nat.xor_lt_two_pow (n := 32) hh (by omega)
theorem fnv1 (h : Nat) (b : Int) (hh : h < 4294967296) (hb : 0 ≤ b ∧ b < 256) :
    IntKind.u32.wrap (IntKind.u32.wrap (((BitVec.ofInt 32 (h : Int) ^^^ BitVec.ofInt 32 (IntKind.u32.wrap b)).toNat : Nat) : Int) * 16777619) = (step h b : Int) := by
  rw [xor32 h b hh hb, IntKind.wrap_u32, IntKind.wrap_u32, step]
  have := xlt h b hh hb
  omega
theorem xsplit (h : Nat) (b : Int) (hb : 0 ≤ b ∧ b < 256) : h / 256 * 256 + ((h % 256) ^^^ b.toNat) = h ^^^ b.toNat := by
  have h1 : (h ^^^ b.toNat) % 2 ^ 8 = (h % 2 ^ 8) ^^^ (b.toNat % 2 ^ 8) := Nat.xor_mod_two_pow
  have h2 : (h ^^^ b.toNat) / 2 ^ 8 = (h / 2 ^ 8) ^^^ (b.toNat / 2 ^ 8) := Nat.xor_div_two_pow
  have h3 : b.toNat / 2 ^ 8 = 0 := by omega
  have h4 : b.toNat % 2 ^ 8 = b.toNat := by omega
  rw [h3, Nat.xor_zero] at h2
  rw [h4] at h1
  have : (2 : Nat) ^ 8 = 256 := rfl
  rw [this] at h1 h2
  omega
theorem fnv2 (h : Nat) (b : Int) (hh : h < 4294967296) (hb : 0 ≤ b ∧ b < 256) :
    IntKind.u64.wrap ((IntKind.u64.wrap ((IntKind.u64.wrap (Int.tdiv h 256)) * 256)) + (IntKind.u64.wrap (IntKind.u8.wrap ((BitVec.ofInt 8 (IntKind.u8.wrap h) ^^^ BitVec.ofInt 8 b).toNat : Nat)))) = ((h ^^^ b.toNat : Nat) : Int) := by
  rw [BitVec.toNat_xor, BitVec.toNat_ofInt, BitVec.toNat_ofInt]
  have e0 : ((2 ^ 8 : Nat) : Int) = 256 := by decide
  have e1 : (IntKind.u8.wrap (h : Int) % ((2 ^ 8 : Nat) : Int)).toNat = h % 256 := by rw [e0, IntKind.wrap_u8]; omega
  have e2 : (b % ((2 ^ 8 : Nat) : Int)).toNat = b.toNat := by rw [e0]; omega
  rw [e1, e2, Int.tdiv_eq_ediv_of_nonneg (by omega)]
  have h1 := xsplit h b hb
  have h2 := xlt h b hh hb
  have h3 : (h % 256) ^^^ b.toNat < 256 := Nat.xor_lt_two_pow (n := 8) (by omega) (by omega)
  rw [← h1] at h2 ⊢
  generalize (h % 256) ^^^ b.toNat = z at *
  simp only [IntKind.wrap_u8, IntKind.wrap_u64]
  omega
theorem and31 (n : Nat) (hn : n < 4294967296) : IntKind.i64.wrap (((BitVec.ofInt 64 (n : Int) &&& BitVec.ofInt 64 2147483647).toNat : Nat) : Int) = ((n % 2147483648 : Nat) : Int) := by
  rw [BitVec.toNat_and, BitVec.toNat_ofInt, BitVec.toNat_ofInt]
  have e0 : ((2 ^ 64 : Nat) : Int) = 18446744073709551616 := by decide
  have e1 : ((n : Int) % ((2 ^ 64 : Nat) : Int)).toNat = n := by rw [e0]; omega
  have e2 : ((2147483647 : Int) % ((2 ^ 64 : Nat) : Int)).toNat = 2 ^ 31 - 1 := by decide
  rw [e1, e2, Nat.and_two_pow_sub_one_eq_mod, i64w] <;> omega
theorem tm31 (n : Nat) : Int.tmod (n : Int) 2147483648 = ((n % 2147483648 : Nat) : Int) := by
  rw [Int.tmod_eq_emod_of_nonneg (by omega)]; omega
/-- The number drawn. -/
def draw (a b : Int) : Int := ((fnv (bytes a ++ bytes b) % 2147483648 : Nat) : Int)
theorem draw_bnd (a b : Int) : 0 ≤ draw a b ∧ draw a b < 2147483648 := by unfold draw; omega
def below (a b n : Int) : Int := if n < 1 then 0 else Int.tmod (draw a b) n
def jit (a b base : Int) : Int := if base < 0 ∨ 1099511627776 < base then base else Int.tdiv (base * (90 + below a b 21)) 100
theorem below_bnd (a b : Int) : 0 ≤ below a b 21 ∧ below a b 21 < 21 := by
  have := draw_bnd a b
  rw [below, if_neg (by decide), Int.tmod_eq_emod_of_nonneg this.1]; omega
theorem split100 (base f : Int) (hb : 0 ≤ base ∧ base ≤ 1099511627776) (hf : 90 ≤ f ∧ f < 111) :
    IntKind.i64.wrap ((IntKind.i64.wrap ((IntKind.i64.wrap (Int.tdiv base 100)) * f)) + (IntKind.i64.wrap (Int.tdiv (IntKind.i64.wrap ((Int.tmod base 100) * f)) 100))) = Int.tdiv (base * f) 100 := by
  rw [Int.tdiv_eq_ediv_of_nonneg hb.1, Int.tmod_eq_emod_of_nonneg hb.1]
  have hp : 0 ≤ base * f := Int.mul_nonneg hb.1 (by omega)
  rw [Int.tdiv_eq_ediv_of_nonneg hp]
  have hq : base = 100 * (base / 100) + base % 100 := (Int.mul_ediv_add_emod base 100).symm
  have hq0 : 0 ≤ base / 100 ∧ base / 100 ≤ 10995116278 := by omega
  have hm0 : 0 ≤ base % 100 ∧ base % 100 < 100 := by omega
  generalize base / 100 = q at *
  generalize base % 100 = m at *
  have h1 : 0 ≤ q * f := Int.mul_nonneg hq0.1 (by omega)
  have h2 : q * f ≤ 10995116278 * 111 := Int.mul_le_mul hq0.2 (by omega) (by omega) (by omega)
  have h3 : 0 ≤ m * f := Int.mul_nonneg hm0.1 (by omega)
  have h4 : m * f ≤ 100 * 111 := Int.mul_le_mul (by omega) (by omega) (by omega) (by omega)
  have h5 : base * f = 100 * (q * f) + m * f := by rw [hq, Int.add_mul, Int.mul_assoc]
  rw [h5, i64w (n := q) (by omega), i64w (n := q * f) (by omega), i64w (n := m * f) (by omega), Int.tdiv_eq_ediv_of_nonneg h3, i64w (n := m * f / 100) (by omega), i64w (by omega)]
  omega
end Go.AV.JT
