/- Jitter and its twin give the same number: what the printed walks compute. -/
import Derived.Test.YtlgnflbekdldnaaAvTH
import Derived.Test.YtlgnflbekdldnaaAvQ7
set_option linter.unusedVariables false
set_option maxRecDepth 4000
namespace Go.Proofs
open Go Go.AV
namespace JT2
theorem modlem (x y z : Int) : (z % 4294967296 + x % 4294967296 * y) % 4294967296 = (z + x * y) % 4294967296 := by
  have h : x % 4294967296 * y = x * y - 4294967296 * (x / 4294967296 * y) := by
    rw [Int.emod_def, Int.sub_mul, Int.mul_assoc]
  rw [h]
  generalize x * y = p
  generalize x / 4294967296 * y = q
  omega
theorem modlem' (x y z : Int) : (z + x % 4294967296 * y) % 4294967296 = (z + x * y) % 4294967296 := by
  have h : x % 4294967296 * y = x * y - 4294967296 * (x / 4294967296 * y) := by
    rw [Int.emod_def, Int.sub_mul, Int.mul_assoc]
  rw [h]
  generalize x * y = p
  generalize x / 4294967296 * y = q
  omega
theorem u64w' {n : Int} (h : 0 ≤ n ∧ n ≤ 18446744073709551615) : IntKind.u64.wrap n = n := JT.u64w h
theorem times_ev : ∀ (n : Nat) (a b out : Int), b.toNat ≤ n → 0 ≤ a ∧ a < 4294967296 → 0 ≤ b ∧ b < 4294967296 → 0 ≤ out ∧ out < 4294967296 → Ev Try.c237 (.s0 a b out) ((out + a * b) % 4294967296) := by
  intro n
  induction n with
  | zero =>
    intro a b out hn ha hb ho
    have : b = 0 := by omega
    subst this
    refine Ev.intro ?_
    simp only [Try.c237, Runs]
    rw [if_neg (by decide)]
    show out = _
    rw [Int.mul_zero]; omega
  | succ n ih =>
    intro a b out hn ha hb ho
    refine Ev.intro ?_
    simp only [Try.c237, Runs]
    by_cases h0 : 0 < b
    · rw [if_pos (by simpa using h0)]
      refine ⟨by decide, ?_⟩
      have e1 : Int.tmod b 2 = b % 2 := Int.tmod_eq_emod_of_nonneg hb.1
      have e2 : Int.tdiv b 2 = b / 2 := Int.tdiv_eq_ediv_of_nonneg hb.1
      have e3 : IntKind.u64.wrap (a * 2) = a * 2 := u64w' (by omega)
      have e4 : Int.tmod (a * 2) 4294967296 = a * 2 % 4294967296 := Int.tmod_eq_emod_of_nonneg (by omega)
      have e5 : IntKind.u64.wrap (b / 2) = b / 2 := u64w' (by omega)
      have e6 : IntKind.u64.wrap (out + a) = out + a := u64w' (by omega)
      have e7 : Int.tmod (out + a) 4294967296 = (out + a) % 4294967296 := Int.tmod_eq_emod_of_nonneg (by omega)
      rw [e1]
      rcases Int.emod_two_eq b with hh | hh
      · rw [if_neg (by rw [hh]; decide)]
        refine Ev.intro ?_
        simp only [Try.c237, Runs]
        refine ⟨by decide, by decide, ?_⟩
        show Ev _ _ _
        rw [e3, e4, e2, e5]
        have := ih (a * 2 % 4294967296) (b / 2) out (by omega) (by omega) (by omega) ho
        rw [modlem', Int.mul_assoc, show 2 * (b / 2) = b by omega] at this
        exact this
      · rw [if_pos (by rw [hh]; decide)]
        refine ⟨by decide, ?_⟩
        refine Ev.intro ?_
        simp only [Try.c237, Runs]
        refine ⟨by decide, by decide, ?_⟩
        show Ev _ _ _
        rw [e3, e4, e2, e5, e6, e7]
        have := ih (a * 2 % 4294967296) (b / 2) ((out + a) % 4294967296) (by omega) (by omega) (by omega) (by omega)
        rw [modlem, Int.mul_assoc, Int.add_assoc] at this
        have hb' : a + a * (2 * (b / 2)) = a * b := by
          have : 2 * (b / 2) = b - 1 := by omega
          rw [this, Int.mul_sub, Int.mul_one]; omega
        rw [hb'] at this
        exact this
    · have : b = 0 := by omega
      subst this
      rw [if_neg (by decide)]
      show out = _
      rw [Int.mul_zero]; omega
theorem times_R (a b : Int) (ha : 0 ≤ a ∧ a < 4294967296) (hb : 0 ≤ b ∧ b < 4294967296) : Try.m237.R (a, b) (a * b % 4294967296) := by
  show Ev _ _ _
  have := times_ev b.toNat a b 0 (Nat.le_refl _) ha hb (by decide)
  rw [Int.zero_add] at this
  exact this

theorem put_ev (n : Int) : ∀ (k : Nat) (b : List Int), k ≤ 8 → b.length + k ≤ 1000 → Ev Try.c236 (.s0 b n (8 * k - 8)) (b ++ JT.pbk n k) := by
  intro k
  induction k with
  | zero =>
    intro b _ _
    refine Ev.intro ?_
    simp only [Try.c236, Runs]
    rw [if_neg (by decide)]
    show b = _
    simp [JT.pbk]
  | succ k ih =>
    intro b hk hb
    refine Ev.intro ?_
    simp only [Try.c236, Runs]
    have e : (8 * ((k + 1 : Nat) : Int) - 8) = ((8 * k : Nat) : Int) := by omega
    rw [e, if_pos (by rw [decide_eq_true_eq]; omega)]
    refine ⟨by omega, by simp; omega, ?_⟩
    show Ev _ _ _
    have ih' := ih (b ++ [IntKind.u8.wrap (Int.fdiv n (2 ^ (min (((8 * k : Nat) : Int)).toNat 64)))]) (by omega) (by simp; omega)
    rw [List.append_assoc] at ih'
    rw [show IntKind.i64.wrap (((8 * k : Nat) : Int) - 8) = 8 * (k : Int) - 8 by rw [JT.i64w] <;> omega]
    exact ih'
theorem put_R (b : List Int) (n : Int) (hb : b.length ≤ 100) : Try.m236.R (b, n) (b ++ JT.bytes n) := by
  show Ev _ _ _
  exact put_ev n 8 b (Nat.le_refl _) (by omega)

theorem eight_ev : ∀ (k : Nat) (b : List Int) (u : Int), k ≤ 8 → b.length = 8 → 0 ≤ u ∧ u ≤ 18446744073709551615 → Ev Try.c230 (.s0 b u (k - 1)) (JT.by8 k u ++ b.drop k) := by
  intro k
  induction k with
  | zero =>
    intro b u _ _ _
    refine Ev.intro ?_
    simp only [Try.c230, Runs]
    rw [if_neg (by decide)]
    show b = _
    simp [JT.by8]
  | succ k ih =>
    intro b u hk hb hu
    refine Ev.intro ?_
    simp only [Try.c230, Runs]
    have e : (((k + 1 : Nat) : Int) - 1) = (k : Int) := by omega
    rw [e, if_pos (by rw [decide_eq_true_eq]; omega)]
    refine ⟨by decide, ⟨by omega, by rw [hb, Int.toNat_natCast]; omega, ?_⟩⟩
    refine ⟨by rw [hb, Int.toNat_natCast]; omega, by decide, ?_⟩
    show Ev _ _ _
    rw [Int.toNat_natCast, Int.tmod_eq_emod_of_nonneg hu.1, Int.tdiv_eq_ediv_of_nonneg hu.1, show IntKind.u8.wrap (u % 256) = u % 256 by rw [IntKind.wrap_u8]; omega, show IntKind.u64.wrap (u / 256) = u / 256 from u64w' (by omega),
      show IntKind.i64.wrap ((k : Int) - 1) = (k : Int) - 1 by rw [JT.i64w]; omega]
    have ih' := ih (b.modify k (fun _ => u % 256)) (u / 256) (by omega) (by simpa using hb) (by omega)
    have hd : (b.modify k (fun _ => u % 256)).drop k = [u % 256] ++ b.drop (k + 1) := by
      rw [List.drop_eq_getElem_cons (by simp; omega)]
      simp [List.drop_modify_of_lt]
    rw [hd, ← List.append_assoc] at ih'
    exact ih'
theorem eight_R (n : Int) : Try.m230.R n (JT.bytes n) := by
  show Runs (Try.a230 n) _
  simp only [Try.a230, Runs]
  refine ⟨by decide, ?_⟩
  show Ev _ _ _
  have := eight_ev 8 (List.replicate 8 0) (IntKind.u64.wrap n) (Nat.le_refl _) (by simp) (by rw [IntKind.wrap_u64]; omega)
  rw [JT.bytes_by8, List.drop_eq_nil_of_le (by simp), List.append_nil] at this
  exact this

theorem byteAt_str (l : List Int) (i : Nat) (h : i < l.length) (hb : ∀ z ∈ l, 0 ≤ z ∧ z < 256) : byteAt (strOfNums l) i = l[i] := by
  have := hb _ (List.getElem_mem h)
  unfold byteAt
  rw [strOfNums_data, List.getD_eq_getElem?_getD, List.getElem?_map, List.getElem?_eq_getElem h]
  simp only [Option.map_some, Option.getD_some]
  rw [UInt8.toNat_ofNat']
  omega
theorem fnv1_ev (l : List Int) (hl : l.length ≤ 100) (hb : ∀ z ∈ l, 0 ≤ z ∧ z < 256) : ∀ (n i : Nat) (h : Nat), n + i = l.length → h < 4294967296 → Ev Try.c235 (.s0 (strOfNums l) h (l.length : Int) i) ((l.drop i).foldl JT.step h : Nat) := by
  intro n
  induction n with
  | zero =>
    intro i h hi hh
    refine Ev.intro ?_
    simp only [Try.c235, Runs]
    rw [if_neg (by rw [decide_eq_true_eq]; omega)]
    show _ = _
    rw [List.drop_eq_nil_of_le (by omega), JT.i64w (by omega)]; rfl
  | succ n ih =>
    intro i h hi hh
    refine Ev.intro ?_
    simp only [Try.c235, Runs]
    have hil : i < l.length := by omega
    have hz := hb _ (List.getElem_mem hil)
    rw [if_pos (by rw [decide_eq_true_eq]; omega)]
    refine ⟨by omega, by rw [strOfNums_size]; omega, ?_⟩
    show Ev _ _ _
    rw [Int.toNat_natCast, byteAt_str l i hil hb, JT.fnv1 h _ hh hz, show IntKind.i64.wrap ((i : Int) + 1) = ((i + 1 : Nat) : Int) by rw [JT.i64w] <;> omega]
    have ih' := ih (i + 1) (JT.step h l[i]) (by omega) (JT.step_lt _ _)
    rw [List.drop_eq_getElem_cons hil]
    exact ih'
theorem fnv1_R (l : List Int) (hl : l.length ≤ 100) (hb : ∀ z ∈ l, 0 ≤ z ∧ z < 256) : Try.m235.R (strOfNums l) (JT.fnv l : Nat) := by
  show Ev _ _ _
  rw [strOfNums_size]
  exact fnv1_ev l hl hb l.length 0 2166136261 rfl (by decide)
theorem fnv2_ev (l : List Int) (hl : l.length ≤ 100) (hb : ∀ z ∈ l, 0 ≤ z ∧ z < 256) : ∀ (n i : Nat) (h : Nat), n + i = l.length → h < 4294967296 → Ev Try.c231 (.s0 l h i) ((l.drop i).foldl JT.step h : Nat) := by
  intro n
  induction n with
  | zero =>
    intro i h hi hh
    refine Ev.intro ?_
    simp only [Try.c231, Runs]
    rw [if_neg (by rw [decide_eq_true_eq]; omega)]
    show _ = _
    rw [List.drop_eq_nil_of_le (by omega), JT.i64w (by omega)]; rfl
  | succ n ih =>
    intro i h hi hh
    refine Ev.intro ?_
    simp only [Try.c231, Runs]
    have hil : i < l.length := by omega
    have hz := hb _ (List.getElem_mem hil)
    rw [if_pos (by rw [decide_eq_true_eq]; omega)]
    refine ⟨by decide, by omega, by rw [Int.toNat_natCast]; exact hil, _, times_R _ _ ?_ (by decide), ?_⟩
    · simp only [Int.toNat_natCast]
      rw [JT.fnv2 h _ hh hz]
      have := JT.xlt h _ hh hz
      omega
    · show Ev _ _ _
      simp only [Int.toNat_natCast]
      rw [JT.fnv2 h _ hh hz, show IntKind.i64.wrap ((i : Int) + 1) = ((i + 1 : Nat) : Int) by rw [JT.i64w] <;> omega,
        show ((h ^^^ (l[i]).toNat : Nat) : Int) * 16777619 % 4294967296 = (JT.step h l[i] : Int) by unfold JT.step; omega]
      have ih' := ih (i + 1) (JT.step h l[i]) (by omega) (JT.step_lt _ _)
      rw [List.drop_eq_getElem_cons hil]
      exact ih'
theorem fnv2_R (l : List Int) (hl : l.length ≤ 100) (hb : ∀ z ∈ l, 0 ≤ z ∧ z < 256) : Try.m231.R l (JT.fnv l : Nat) := by
  show Ev _ _ _
  exact fnv2_ev l hl hb l.length 0 2166136261 rfl (by decide)
theorem bytes_len (n : Int) : (JT.bytes n).length = 8 := JT.pbk_len n 8
theorem two_bnd (a b : Int) : ∀ z ∈ JT.bytes a ++ JT.bytes b, 0 ≤ z ∧ z < 256 := fun z hz => (List.mem_append.1 hz).elim (JT.pbk_bnd a 8 z) (JT.pbk_bnd b 8 z)
theorem two_len (a b : Int) : (JT.bytes a ++ JT.bytes b).length ≤ 100 := by rw [List.length_append, bytes_len, bytes_len]; decide
theorem mix_R (a b : Int) : Try.m229.R (a, b) (JT.draw a b) := by
  show Runs (Try.a229 a b) _
  simp only [Try.a229, Runs]
  refine ⟨_, put_R [] a (by simp), _, put_R _ b ?_, _, fnv1_R _ ?_ ?_, ?_⟩
  · simp [bytes_len]
  · exact two_len a b
  · exact two_bnd a b
  · show _ = _
    rw [List.nil_append, JT.and31 _ (JT.fnv_lt _)]; rfl
theorem draw1_R (a b : Int) : Try.m215.R (a, b) (JT.draw a b) := by
  show Runs (Try.a215 a b) _
  simp only [Try.a215, Runs]
  exact ⟨_, mix_R a b, rfl⟩
theorem draw2_R (a b : Int) : Try.m216.R (a, b) (JT.draw a b) := by
  show Runs (Try.a216 a b) _
  simp only [Try.a216, Runs]
  refine ⟨_, eight_R a, _, eight_R b, ?_, _, fnv2_R _ (two_len a b) (two_bnd a b), by decide, ?_⟩
  · rw [bytes_len, bytes_len]; decide
  · show _ = _
    rw [JT.tm31]; rfl
theorem below1_R (a b n : Int) : Try.m190.R (a, b, n) (JT.below a b n) := by
  show Runs (Try.a190 a b n) _
  simp only [Try.a190, Runs]
  by_cases h : n < 1
  · rw [if_pos (by simpa using h)]; show _ = _; rw [JT.below, if_pos h]
  · rw [if_neg (by simpa using h)]
    refine ⟨_, draw1_R a b, by omega, ?_⟩
    show _ = _; rw [JT.below, if_neg h]
theorem below2_R (a b n : Int) : Try.m191.R (a, b, n) (JT.below a b n) := by
  show Runs (Try.a191 a b n) _
  simp only [Try.a191, Runs]
  by_cases h : n < 1
  · rw [if_pos (by simpa using h)]; show _ = _; rw [JT.below, if_pos h]
  · rw [if_neg (by simpa using h)]
    refine ⟨_, draw2_R a b, by omega, ?_⟩
    show _ = _; rw [JT.below, if_neg h]
theorem jit1_R (a b base : Int) : Try.m131.R (a, b, base, 10) (JT.jit a b base) := by
  show Runs (Try.a131 a b base 10) _
  simp only [Try.a131, Runs]
  by_cases h1 : base < 0
  · rw [if_pos (by simpa using h1)]; show _ = _; rw [JT.jit, if_pos (.inl h1)]
  rw [if_neg (by simpa using h1)]
  by_cases h2 : 1099511627776 < base
  · rw [if_pos (by simpa using h2)]; show _ = _; rw [JT.jit, if_pos (.inr h2)]
  rw [if_neg (by simpa using h2), if_neg (by decide), if_neg (by decide)]
  have e : IntKind.i64.wrap ((IntKind.i64.wrap (2 * 10)) + 1) = 21 := by decide
  have e2 : IntKind.i64.wrap (100 - 10) = 90 := by decide
  rw [e, e2]
  refine ⟨_, below1_R a b 21, by decide, ?_⟩
  show _ = _
  have hb := JT.below_bnd a b
  rw [JT.jit, if_neg (by omega)]
  generalize JT.below a b 21 = r at *
  have hp : 0 ≤ base * (90 + r) := Int.mul_nonneg (by omega) (by omega)
  have hq : base * (90 + r) ≤ 1099511627776 * 111 := Int.mul_le_mul (by omega) (by omega) (by omega) (by omega)
  rw [JT.i64w (n := 90 + r) (by omega), JT.i64w (n := base * (90 + r)) (by omega), JT.i64w]
  rw [Int.tdiv_eq_ediv_of_nonneg hp]
  generalize base * (90 + r) = m at *
  omega
theorem jit2_R (a b base : Int) : Try.m132.R (a, b, base, 10) (JT.jit a b base) := by
  show Runs (Try.a132 a b base 10) _
  simp only [Try.a132, Runs]
  by_cases h1 : base < 0
  · rw [if_pos (by simpa using h1)]; show _ = _; rw [JT.jit, if_pos (.inl h1)]
  rw [if_neg (by simpa using h1)]
  by_cases h2 : 1099511627776 < base
  · rw [if_pos (by simpa using h2)]; show _ = _; rw [JT.jit, if_pos (.inr h2)]
  rw [if_neg (by simpa using h2), if_neg (by decide), if_neg (by decide)]
  have e : IntKind.i64.wrap ((IntKind.i64.wrap (2 * 10)) + 1) = 21 := by decide
  have e2 : IntKind.i64.wrap (100 - 10) = 90 := by decide
  rw [e, e2]
  refine ⟨_, below2_R a b 21, by decide, by decide, by decide, ?_⟩
  show _ = _
  have hb := JT.below_bnd a b
  rw [JT.jit, if_neg (by omega)]
  generalize JT.below a b 21 = r at *
  rw [JT.i64w (n := 90 + r) (by omega)]
  exact JT.split100 base (90 + r) (by omega) (by omega)
end JT2
theorem Try.k131 (a b base : Int) : AV.Spec Try.prog 131 [.one (.int .i64 a), .one (.int .i64 b), .one (.int .i64 base), .one (.int .i64 10)] [.one (.c (.int .i64 (JT.jit a b base)))] :=
  SpecG.toSpec (ds := [.one (.int .i64 a), .one (.int .i64 b), .one (.int .i64 base), .one (.int .i64 10)]) (Try.m131.ok (a, b, base, 10) _ (JT2.jit1_R a b base))
theorem Try.k132 (a b base : Int) : AV.Spec Try.prog 132 [.one (.int .i64 a), .one (.int .i64 b), .one (.int .i64 base), .one (.int .i64 10)] [.one (.c (.int .i64 (JT.jit a b base)))] :=
  SpecG.toSpec (ds := [.one (.int .i64 a), .one (.int .i64 b), .one (.int .i64 base), .one (.int .i64 10)]) (Try.m132.ok (a, b, base, 10) _ (JT2.jit2_R a b base))
end Go.Proofs
