import Derived.Test.YtlgnflbekdldnaaAvTK
import Derived.Test.YtlgnflbekdldnaaAvU1
import Derived.Test.YtlgnflbekdldnaaAvU4
import Derived.Test.YtlgnflbekdldnaaAvTL
import Derived.Test.YtlgnflbekdldnaaAvQ3
/- Policies and backoffs: what the printed walks compute. -/
set_option linter.unusedVariables false
set_option maxRecDepth 4000
namespace Go.Proofs
open Go Go.AV
namespace AP
open VU
section
variable {P : Program} {J Y : Type} {K : J ⊕ Y → Prop}
theorem run_idx {α : Type} {E : Enc α} {xs : List α} {i : Nat} {k : Cert P J Y} (h : i < xs.length) (hk : Runs k K) : Runs (.idx E xs (i : Int) k) K := ⟨Int.natCast_nonneg i, h, hk⟩
theorem run_egetX {α : Type} {E : Enc α} {xs : List α} {i : Nat} {x : α} {k : α → Cert P J Y} (h : i < xs.length) (hx : xs[i] = x) (hk : Runs (k x) K) : Runs (.eget E xs ((i : Int)).toNat k) K := by
  subst hx; exact ⟨h, hk⟩
theorem run_dvd {b : Int} {k : Cert P J Y} (h : b ≠ 0) (hk : Runs k K) : Runs (.dvd b k) K := ⟨h, hk⟩
end
attribute [local irreducible] Runs
theorem m187 (n a b : Int) : Try.m187.R (n, a, b) (decide (a ≤ n) && decide (n ≤ b)) := by
  refine U.run_ite (fun h => U.run_ret ?_) (fun h => U.run_ret ?_)
  · show _ = _; rw [h]; rfl
  · show _ = _; rw [h]; rfl
theorem m134 (n a b : Int) : Try.m134.R (n, a, b) (decide (a ≤ n) && decide (n ≤ b)) := by
  refine U.run_ite (fun h => U.run_ret ?_) (fun h => U.run_ret ?_)
  · show _ = _; rw [h]; rfl
  · show _ = _; rw [h]; rfl
theorem rng0 (n h : Int) : (decide (0 ≤ n) && decide (n ≤ h)) = RT.rng n h := rfl
theorem long_fun (l : List ByteArray) : (l.any fun s => decide (4096 < (s.size : Int))) = l.any RT.long := by
  congr 1; funext s; unfold RT.long; rw [Bool.eq_iff_iff]; simp only [decide_eq_true_eq]; omega
theorem fat_len {o : GPolicy} (ho : o.ok) : o.Fatal.length ≤ 4611686018427387904 := reach16 (RT.ok_fatal ho)
theorem m129 (o : GPolicy) (ho : o.ok) : Try.m129.R o (RT.right o) := by
  have hf := fat_len ho
  have hs1 : ∀ q : Bool, RT.right o = (q && ((RT.times o).all (RT.rng · 1099511627776) && (RT.rng o.Coef 10000 && (RT.rng o.Attempts 1000 && !o.Fatal.any RT.long)))) → q = true → Ev Try.c129 (.s0 o) (RT.right o) := by
    intro q hq hq2
    rw [hq, hq2, Bool.true_and]
    refine Ev.intro (U.run_bld (U.run_len (U.run_jump ?_)))
    show Ev _ _ _
    refine (U.ev_for (RT.times o) (fun i (_ : Unit) => Try.J129.s1 o (RT.times o) (RT.times o).length i) (fun _ _ => True) (fun r _ => r.all (RT.rng · 1099511627776) && (RT.rng o.Coef 10000 && (RT.rng o.Attempts 1000 && !o.Fatal.any RT.long))) (by simp [RT.times]) ?_ ?_ () trivial :)
    · intro _ _
      rw [List.all_nil, Bool.true_and]
      refine U.run_f U.dec_f (U.run_call _ (m187 _ _ _) (U.run_ite (fun h1 => U.run_call _ (m187 _ _ _) (U.run_ite (fun h2 => U.run_call _ (has188 o.Fatal _ (fun s => decide (4096 < (s.size : Int))) (fun x _ => U.run_ret rfl) hf) (U.run_ret ?_)) (fun h2 => U.run_ret ?_))) (fun h1 => U.run_ret ?_)))
      · rw [rng0] at h1 h2; show _ = _; rw [h1, h2, long_fun]; rfl
      · rw [rng0] at h1 h2; show _ = _; rw [h1, h2]; rfl
      · rw [rng0] at h1; show _ = _; rw [h1]; rfl
    · intro i hi _ _ hw ht x r hx hm y hy ih
      rw [List.all_cons] at hy
      refine U.run_t ht (run_idx hi (run_egetX hi hx (U.run_call _ (m187 _ _ _) (U.run_ite (fun h => U.run_ret ?_) (fun h => U.run_jump ?_)))))
      · rw [rng0, Bool.not_eq_true'] at h; show _ = _; rw [hy, h]; simp
      · rw [rng0, Bool.not_eq_false'] at h
        show Ev _ _ _
        rw [hw]; refine ih () trivial ?_
        rw [hy, h]; simp
  have hr : RT.right o = ((decide (o.Queue = ⟨#[]⟩) || RT.nameOk o.Queue) && decide (o.Fatal.length ≤ 64) && ((RT.times o).all (RT.rng · 1099511627776) && (RT.rng o.Coef 10000 && (RT.rng o.Attempts 1000 && !o.Fatal.any RT.long)))) := by
    unfold RT.right; simp only [Bool.and_assoc]
  have h64 : decide (64 < (o.Fatal.length : Int)) = !decide (o.Fatal.length ≤ 64) := by
    rw [Bool.eq_iff_iff]; simp only [decide_eq_true_eq, Bool.not_eq_true', decide_eq_false_iff_not]; omega
  refine U.run_ite (fun h => U.run_call _ (m139 o.Queue) (U.run_ite (fun h1 => U.run_ret ?_) (fun h1 => U.run_len (U.run_ite (fun h2 => U.run_ret ?_) (fun h2 => U.run_jump ?_))))) (fun h => U.run_len (U.run_ite (fun h2 => U.run_ret ?_) (fun h2 => U.run_jump ?_)))
  · rw [strEq_iff, Bool.not_eq_true'] at h
    rw [Bool.not_eq_true'] at h1
    show _ = _; rw [hr, h, h1]; rfl
  · rw [h64, Bool.not_eq_true'] at h2
    show _ = _; rw [hr, h2]; simp
  · rw [h64, Bool.not_eq_false'] at h2
    rw [Bool.not_eq_false'] at h1
    exact hs1 _ hr (by rw [h1, h2]; simp)
  · rw [h64, Bool.not_eq_true'] at h2
    show _ = _; rw [hr, h2]; simp
  · rw [h64, Bool.not_eq_false'] at h2
    rw [strEq_iff, Bool.not_eq_false'] at h
    exact hs1 _ hr (by rw [h, h2]; rfl)
theorem m65 (o : GPolicy) (ho : o.ok) : Try.m65.R o (RT.right o) := by
  have hf := fat_len ho
  let T : Bool := (decide (o.Queue = ⟨#[]⟩) || RT.nameOk o.Queue) && (RT.rng o.Coef 10000 && (RT.rng o.Attempts 1000 && decide ((o.Fatal.length : Int) ≤ 64)))
  have hr : RT.right o = ((RT.times o).all (RT.rng · 1099511627776) && (!o.Fatal.any RT.long && T)) := by
    have e : decide (o.Fatal.length ≤ 64) = decide ((o.Fatal.length : Int) ≤ 64) := by rw [Bool.eq_iff_iff]; simp only [decide_eq_true_eq]; omega
    show RT.right o = (_ && (_ && ((decide (o.Queue = ⟨#[]⟩) || RT.nameOk o.Queue) && (RT.rng o.Coef 10000 && (RT.rng o.Attempts 1000 && decide ((o.Fatal.length : Int) ≤ 64))))))
    unfold RT.right; rw [e]
    generalize (decide (o.Queue = ⟨#[]⟩) || RT.nameOk o.Queue) = a
    generalize decide ((o.Fatal.length : Int) ≤ 64) = b
    generalize (RT.times o).all (RT.rng · 1099511627776) = c
    generalize RT.rng o.Coef 10000 = d
    generalize RT.rng o.Attempts 1000 = e
    generalize o.Fatal.any RT.long = f
    cases a <;> cases b <;> cases c <;> cases d <;> cases e <;> cases f <;> rfl
  rw [hr]
  refine U.run_bld (U.run_jump ?_)
  show Ev _ _ _
  refine (U.ev_for (RT.times o) (fun i (_ : Unit) => Try.J65.s0 o (RT.times o) i) (fun _ _ => True) (fun r _ => r.all (RT.rng · 1099511627776) && (!o.Fatal.any RT.long && T)) (by simp [RT.times]) ?_ ?_ () trivial :)
  · intro _ _
    rw [List.all_nil, Bool.true_and]
    refine U.run_len (U.run_f U.dec_f (U.run_jump ?_))
    show Ev _ _ _
    refine (U.ev_for o.Fatal (fun i (_ : Unit) => Try.J65.s1 o i) (fun _ _ => True) (fun r _ => !r.any RT.long && T) hf ?_ ?_ () trivial :)
    · intro _ _
      rw [List.any_nil, Bool.not_false, Bool.true_and]
      have tail : ∀ q : Bool, q = (decide (o.Queue = ⟨#[]⟩) || RT.nameOk o.Queue) → q = true → Runs (P := Try.prog) (J := Try.J65) (.call Try.m134 (o.Coef, 0, 10000) fun r4 => .ite 58 r4 (.call Try.m134 (o.Attempts, 0, 1000) fun r5 => .ite 63 r5 (.len E.str o.Fatal <| .ret (decide ((o.Fatal.length : Int) ≤ 64))) (.ret false)) (.ret false)) (KOf (fun j => Ev Try.c65 j T) T) := by
        intro q hq hq2
        have hT : T = (RT.rng o.Coef 10000 && (RT.rng o.Attempts 1000 && decide ((o.Fatal.length : Int) ≤ 64))) := by
          show (_ && _) = _; rw [← hq, hq2, Bool.true_and]
        rw [hT]
        refine U.run_call _ (m134 _ _ _) (U.run_ite (fun h1 => U.run_call _ (m134 _ _ _) (U.run_ite (fun h2 => U.run_len (U.run_ret ?_)) (fun h2 => U.run_ret ?_))) (fun h1 => U.run_ret ?_))
        · rw [rng0] at h1 h2; show _ = _; rw [h1, h2]; rfl
        · rw [rng0] at h1 h2; show _ = _; rw [h1, h2]; rfl
        · rw [rng0] at h1; show _ = _; rw [h1]; rfl
      refine U.run_len (U.run_f U.dec_f (U.run_ite (fun h => tail _ rfl ?_) (fun h => U.run_call _ (m135 o.Queue) (U.run_ite (fun h1 => tail _ rfl ?_) (fun h1 => U.run_ret ?_)))))
      · rw [strEq_iff] at h; rw [h]; rfl
      · rw [h1]; simp
      · rw [strEq_iff] at h
        show _ = (_ && _); rw [h, h1]; rfl
    · intro i hi _ _ hw ht x r hx hm y hy ih
      have e : decide (4096 < (x.size : Int)) = RT.long x := by unfold RT.long; rw [Bool.eq_iff_iff]; simp only [decide_eq_true_eq]; omega
      rw [List.any_cons] at hy
      refine U.run_len (U.run_t ht (U.run_elemX hi hx (U.run_ite (fun h => U.run_ret ?_) (fun h => U.run_jump ?_))))
      · rw [e] at h; show _ = _; rw [hy, h]; rfl
      · rw [e] at h
        show Ev _ _ _
        rw [hw]; refine ih () trivial ?_
        rw [hy, h]; rfl
  · intro i hi _ _ hw ht x r hx hm y hy ih
    rw [List.all_cons] at hy
    refine U.run_len (U.run_t ht (run_idx hi (run_egetX hi hx (U.run_call _ (m134 _ _ _) (U.run_ite (fun h => U.run_ret ?_) (fun h => U.run_jump ?_))))))
    · rw [rng0, Bool.not_eq_true'] at h; show _ = _; rw [hy, h]; simp
    · rw [rng0, Bool.not_eq_false'] at h
      show Ev _ _ _
      rw [hw]; refine ih () trivial ?_
      rw [hy, h]; simp
theorem m130 (o : GPolicy) (hb : RT.Bnd o) : Try.m130.R o (RT.fill o) := by
  have h1 := hb.fst; have h2 := hb.most; have h3 := hb.coef
  have hs1 : ∀ t p, p = { o with First := if o.First = 0 then 1 else o.First, Coef := if o.Coef = 0 then 200 else o.Coef } → Ev Try.c130 (.s1 p t) (RT.fill o) := by
    intro t p hp
    subst hp
    have hF : 0 ≤ (if o.First = 0 then 1 else o.First) ∧ (if o.First = 0 then 1 else o.First) ≤ 1099511627776 := by split <;> omega
    refine Ev.intro (U.run_ite (fun h => U.run_ret ?_) (fun h => U.run_ret ?_))
    · have h' : o.Most = 0 := by simpa using h
      show _ = _
      unfold RT.fill
      dsimp only
      rw [if_pos h', JT.i64w (by omega)]
    · have h' : ¬ o.Most = 0 := by simpa using h
      show _ = _
      unfold RT.fill
      rw [if_neg h']
  have hs0 : ∀ t p, p = { o with First := if o.First = 0 then 1 else o.First } → Ev Try.c130 (.s0 p t) (RT.fill o) := by
    intro t p hp
    subst hp
    refine Ev.intro (U.run_ite (fun h => U.run_jump ?_) (fun h => U.run_jump ?_))
    · have h' : o.Coef = 0 := by simpa using h
      show Ev _ _ _; exact hs1 _ _ (by rw [if_pos h'])
    · have h' : ¬ o.Coef = 0 := by simpa using h
      show Ev _ _ _; exact hs1 _ _ (by rw [if_neg h'])
  refine U.run_ite (fun h => U.run_jump ?_) (fun h => U.run_jump ?_)
  · have h' : o.First = 0 := by simpa using h
    show Ev _ _ _; exact hs0 _ _ (by rw [if_pos h'])
  · have h' : ¬ o.First = 0 := by simpa using h
    show Ev _ _ _; exact hs0 _ _ (by rw [if_neg h'])
theorem m68 (o : GPolicy) (ho : o.ok) : Try.m68.R o (RT.deflt o) := by
  have hfl := RT.ok_fatal ho
  refine U.run_bld (U.run_app (by have := reach_eq; simp; omega) (U.run_call _ (m65 o ho) (U.run_ite (fun h => U.run_ret ?_) (fun h => ?_))))
  · rw [Bool.not_eq_true'] at h
    show _ = _; unfold RT.deflt; rw [h]; cases o; rfl
  rw [Bool.not_eq_false'] at h
  have hb := RT.right_bnd h
  have h1 := hb.fst; have h2 := hb.most; have h3 := hb.coef
  have e : RT.deflt o = RT.fill o := by unfold RT.deflt; rw [if_pos h]
  rw [e]
  have hs1 : ∀ t p, p = { o with First := if o.First = 0 then 1 else o.First, Coef := if o.Coef = 0 then 200 else o.Coef } → Ev Try.c68 (.s1 t p) (RT.fill o) := by
    intro t p hp
    subst hp
    have hF : 0 ≤ (if o.First = 0 then 1 else o.First) ∧ (if o.First = 0 then 1 else o.First) ≤ 1099511627776 := by split <;> omega
    refine Ev.intro (U.run_ite (fun h => U.run_ite (fun h4 => U.run_ret ?_) (fun h4 => U.run_ret ?_)) (fun h => U.run_ret ?_))
    · have h' : o.Most = 0 := by simpa using h
      have h4' : (if o.First = 0 then 1 else o.First) ≤ 10995116277 := of_decide_eq_true h4
      show _ = _
      unfold RT.fill
      dsimp only
      generalize (if o.First = 0 then (1 : Int) else o.First) = F at hF h4' ⊢
      rw [if_pos h', JT.i64w (by omega), if_neg (show ¬ (1099511627776 : Int) < 100 * F by omega)]
    · have h' : o.Most = 0 := by simpa using h
      have h4' : ¬ (if o.First = 0 then 1 else o.First) ≤ 10995116277 := of_decide_eq_false h4
      show _ = _
      unfold RT.fill
      dsimp only
      generalize (if o.First = 0 then (1 : Int) else o.First) = F at hF h4' ⊢
      rw [if_pos h', if_pos (show (1099511627776 : Int) < 100 * F by omega)]
    · have h' : ¬ o.Most = 0 := by simpa using h
      show _ = _
      unfold RT.fill
      rw [if_neg h']
  have hs0 : ∀ t p, p = { o with First := if o.First = 0 then 1 else o.First } → Ev Try.c68 (.s0 t p) (RT.fill o) := by
    intro t p hp
    subst hp
    refine Ev.intro (U.run_ite (fun h => U.run_jump ?_) (fun h => U.run_jump ?_))
    · have h' : o.Coef = 0 := by simpa using h
      show Ev _ _ _; exact hs1 _ _ (by rw [if_pos h'])
    · have h' : ¬ o.Coef = 0 := by simpa using h
      show Ev _ _ _; exact hs1 _ _ (by rw [if_neg h'])
  refine U.run_ite (fun h => U.run_jump ?_) (fun h => U.run_jump ?_)
  · have h' : o.First = 0 := by simpa using h
    show Ev _ _ _; exact hs0 _ _ (by rw [if_pos h', List.nil_append])
  · have h' : ¬ o.First = 0 := by simpa using h
    show Ev _ _ _; exact hs0 _ _ (by rw [if_neg h', List.nil_append])
theorem m133 (l : List ByteArray) (f : ByteArray) (hl : l.length ≤ 4611686018427387904) : Try.m133.R (l, f) (l.any fun x => decide (f = x)) := by
  have hi : Try.m192.R (l, f) (idxF (fun x => decide (f = x)) l 0) := by
    refine U.run_len (U.run_jump ?_)
    show Ev _ _ _
    refine (U.ev_for l (fun i (k : Nat) => Try.J192.s0 l f l.length i) (fun i k => k = i) (fun r k => idxF (fun x => decide (f = x)) r k) hl ?_ ?_ 0 rfl :)
    · intro k _; exact U.run_f U.dec_f (U.run_ret rfl)
    · intro i hi k hk hw ht x r hx hm y hy ih
      refine U.run_t ht (U.run_elemX hi hx (U.run_ite (fun hb => U.run_ret ?_) (fun hb => U.run_jump ?_)))
      · rw [strEq_iff] at hb
        show (i : Int) = y
        rw [hy, idxF, if_pos hb, hk]
      · rw [strEq_iff] at hb
        show Ev _ _ _
        rw [hw]; refine ih (i + 1) rfl ?_
        rw [hy, idxF, if_neg (by rw [hb]; decide), hk]; rfl
  refine U.run_call _ hi (U.run_ret ?_)
  exact idxF_any _ l 0 (by decide)
theorem m63 (o : GPolicy) (ho : o.ok) (f : ByteArray) : Try.m63.R (o, f) (RT.fatal o f) := U.run_call _ (m133 o.Fatal f (fat_len ho)) (U.run_ret rfl)
theorem m64 (o : GPolicy) (ho : o.ok) (f : ByteArray) : Try.m64.R (o, f) (RT.fatal o f) := by
  refine U.run_len (U.run_jump ?_)
  show Ev _ _ _
  refine (U.ev_for o.Fatal (fun i (_ : Unit) => Try.J64.s0 f o.Fatal o.Fatal.length i) (fun _ _ => True) (fun r _ => r.any fun x => decide (f = x)) (fat_len ho) ?_ ?_ () trivial :)
  · intro _ _; exact U.run_f U.dec_f (U.run_ret rfl)
  · intro i hi _ _ hw ht x r hx hm y hy ih
    have e : strEq x f = decide (f = x) := by rw [strEq_iff, Bool.eq_iff_iff]; simp only [decide_eq_true_eq]; exact eq_comm
    refine U.run_t ht (U.run_elemX hi hx (U.run_ite (fun hb => U.run_ret ?_) (fun hb => U.run_jump ?_)))
    · rw [e] at hb; show _ = _; rw [hy, List.any_cons, hb]; rfl
    · rw [e] at hb
      show Ev _ _ _
      rw [hw]; refine ih () trivial ?_
      rw [hy, List.any_cons, hb]; rfl
/-! ### Backoffs -/
def dl (o : GPolicy) (a s : Int) : Int := RT.delay o a s (JT.jit s a (RT.raw o a))
def fin (a s x : Int) : Int := if 0 < s then RT.mn (JT.jit s a x) 1099511627776 else x
theorem stepw {p : GPolicy} (hF : RT.Fil p) {x : Int} (hx : 0 ≤ x ∧ x ≤ 1099511627776) :
    (if p.Most < (IntKind.i64.wrap (Int.tdiv (IntKind.i64.wrap (x * p.Coef)) 100)) then p.Most else (IntKind.i64.wrap (Int.tdiv (IntKind.i64.wrap (x * p.Coef)) 100))) = RT.step p.Coef p.Most x := by
  have hp := RT.prod_bnd hF hx
  have h1 := Int.tdiv_nonneg hp.1 (by decide : (0 : Int) ≤ 100)
  have h3 : (x * p.Coef).tdiv 100 ≤ x * p.Coef := Int.tdiv_le_self _ hp.1
  rw [JT.i64w (n := x * p.Coef) (by omega), JT.i64w (n := (x * p.Coef).tdiv 100) (by omega)]; rfl
theorem m59 (o : GPolicy) (ho : o.ok) (a s : Int) : Try.m59.R (o, a, s) (dl o a s) := by
  refine U.run_ite (fun h1 => U.run_ret ?_) (fun h1 => U.run_call _ (m129 o ho) (U.run_ite (fun h2 => U.run_ret ?_) (fun h2 => ?_)))
  · show _ = _; unfold dl RT.delay; rw [if_pos (.inl (of_decide_eq_true h1))]
  · rw [Bool.not_eq_true'] at h2
    show _ = _; unfold dl RT.delay; rw [if_pos (.inr h2)]
  rw [Bool.not_eq_false'] at h2
  have h1' : ¬ a < 1 := of_decide_eq_false h1
  have hb := RT.right_bnd h2
  have hF := RT.fill_fil hb
  have e : dl o a s = fin a s (RT.it (RT.fill o).Coef (RT.fill o).Most (RT.rounds a) (RT.mn (RT.fill o).First (RT.fill o).Most)) := by
    unfold dl RT.delay fin; rw [if_neg (by rintro (h | h); exact h1' h; rw [h2] at h; cases h)]; rfl
  rw [e]
  have hs1 : ∀ x, Ev Try.c59 (.s1 a s x) (fin a s x) := by
    intro x
    refine Ev.intro (U.run_ite (fun h => U.run_call _ (JT2.jit1_R s a x) (U.run_ret ?_)) (fun h => U.run_ret ?_))
    · show _ = _; unfold fin RT.mn; rw [if_pos (of_decide_eq_true h)]
    · show _ = _; unfold fin; rw [if_neg (of_decide_eq_false h)]
  refine U.run_call _ (m130 o hb) (U.run_jump ?_)
  show Ev _ _ _
  have hN : RT.rounds a ≤ 1000 := by unfold RT.rounds RT.mn; split <;> omega
  have hw0 := RT.rounds_wrap h1'
  generalize RT.fill o = p at hF ⊢
  generalize RT.rounds a = N at hN hw0 ⊢
  have loop : ∀ (n k : Nat), n + k = N → ∀ x, 0 ≤ x ∧ x ≤ 1099511627776 → Ev Try.c59 (.s0 a s p x (N : Int) (k : Int)) (fin a s (RT.it p.Coef p.Most n x)) := by
    intro n
    induction n with
    | zero =>
      intro k hk x hx
      obtain rfl : k = N := by omega
      exact Ev.intro (U.run_f U.dec_f (U.run_jump (hs1 x)))
    | succ n ih =>
      intro k hk x hx
      have hst := stepw hF hx
      have hbnd := RT.step_bnd hF hx
      refine Ev.intro (U.run_t (U.dec_t (by omega)) (run_dvd (by decide) (U.run_ite (fun h => U.run_jump ?_) (fun h => U.run_jump ?_))))
      · rw [hst] at h
        have h' : RT.step p.Coef p.Most x = x := by simpa using h
        rw [RT.it_fix h']
        exact hs1 x
      · show Ev _ _ _
        rw [hst, show IntKind.i64.wrap ((k : Int) + 1) = ((k + 1 : Nat) : Int) by rw [JT.i64w] <;> omega]
        exact ih (k + 1) (by omega) _ ⟨hbnd.1, hbnd.2.1⟩
  have hf := hF.fst; have hm := hF.most
  rw [hw0]
  exact loop N 0 (by omega) _ (by split <;> omega)
theorem m60 (o : GPolicy) (ho : o.ok) (a s : Int) : Try.m60.R (o, a, s) (dl o a s) := by
  refine U.run_call _ (m65 o ho) (U.run_ite (fun h2 => U.run_ret ?_) (fun h2 => U.run_ite (fun h1 => U.run_ret ?_) (fun h1 => ?_)))
  · rw [Bool.not_eq_true'] at h2
    show _ = _; unfold dl RT.delay; rw [if_pos (.inr h2)]
  · show _ = _; unfold dl RT.delay; rw [if_pos (.inl (of_decide_eq_true h1))]
  rw [Bool.not_eq_false'] at h2
  have h1' : ¬ a < 1 := of_decide_eq_false h1
  have hb := RT.right_bnd h2
  have hF := RT.fill_fil hb
  have e : dl o a s = fin a s (RT.it (RT.fill o).Coef (RT.fill o).Most (RT.rounds a) (RT.mn (RT.fill o).First (RT.fill o).Most)) := by
    unfold dl RT.delay fin; rw [if_neg (by rintro (h | h); exact h1' h; rw [h2] at h; cases h)]; rfl
  rw [e]
  have hs1 : ∀ x, Ev Try.c60 (.s1 a s x) (fin a s x) := by
    intro x
    refine Ev.intro (U.run_ite (fun h => U.run_call _ (JT2.jit2_R s a x) (U.run_ret ?_)) (fun h => U.run_ret ?_))
    · show _ = _; unfold fin RT.mn; rw [if_pos (of_decide_eq_true h)]
    · show _ = _; unfold fin; rw [if_neg (of_decide_eq_false h)]
  have ed : RT.deflt o = RT.fill o := by unfold RT.deflt; rw [if_pos h2]
  refine U.run_call _ (m68 o ho) (U.run_jump ?_)
  show Ev _ _ _
  rw [ed]
  have hN9 : RT.rounds a ≤ 999 ∧ ∀ k : Nat, k < RT.rounds a ↔ ((k : Int) + 2 ≤ a ∧ (k : Int) + 2 ≤ 1000) := by unfold RT.rounds RT.mn; split <;> exact ⟨by omega, fun k => by omega⟩
  generalize RT.fill o = p at hF ⊢
  generalize RT.rounds a = N at hN9 ⊢
  have loop : ∀ (n k : Nat), n + k = N → ∀ x, 0 ≤ x ∧ x ≤ 1099511627776 → Ev Try.c60 (.s0 a s p x ((k : Int) + 2)) (fin a s (RT.it p.Coef p.Most n x)) := by
    intro n
    induction n with
    | zero =>
      intro k hk x hx
      have hnk := mt (hN9.2 k).2 (by omega)
      refine Ev.intro (U.run_ite (fun h => U.run_ite (fun h3 => ?_) (fun h3 => U.run_jump (hs1 x))) (fun h => U.run_jump (hs1 x)))
      exact absurd ⟨of_decide_eq_true h, of_decide_eq_true h3⟩ hnk
    | succ n ih =>
      intro k hk x hx
      have hst := stepw hF hx
      have hbnd := RT.step_bnd hF hx
      have hk2 := (hN9.2 k).1 (by omega)
      refine Ev.intro (U.run_t (decide_eq_true hk2.1) (U.run_t (decide_eq_true hk2.2) (run_dvd (by decide) (U.run_jump ?_))))
      show Ev _ _ _
      rw [hst, show IntKind.i64.wrap ((k : Int) + 2 + 1) = ((k + 1 : Nat) : Int) + 2 by rw [JT.i64w] <;> omega]
      exact ih (k + 1) (by omega) _ ⟨hbnd.1, hbnd.2.1⟩
  have hf := hF.fst; have hm := hF.most
  exact loop N 0 (by omega) _ (by split <;> omega)
def ag (o : GPolicy) (a : Int) (f : ByteArray) (p s : Int) : Int × Bool := RT.again o a f p s (JT.jit s a (RT.raw o a))
theorem ag_no {o : GPolicy} {a : Int} {f : ByteArray} {p s : Int} (h : a < 1 ∨ 1000 ≤ a ∨ p < 0 ∨ RT.right o = false ∨ RT.fatal o f = true) : ag o a f p s = (0, false) := by
  unfold ag RT.again; rw [if_pos h]
theorem ag_yes {o : GPolicy} {a : Int} {f : ByteArray} {p s : Int} (h : ¬ (a < 1 ∨ 1000 ≤ a ∨ p < 0 ∨ RT.right o = false ∨ RT.fatal o f = true)) :
    ag o a f p s = if 0 < o.Attempts ∧ o.Attempts ≤ a then (0, false) else if 0 < o.Total ∧ o.Total - p ≤ dl o a s then (0, false) else (dl o a s, true) := by
  unfold ag RT.again; rw [if_neg h]; rfl
theorem totw {o : GPolicy} (h : RT.right o = true) {p : Int} (hp : IntKind.i64.wrap p = p) (h0 : ¬ p < 0) : IntKind.i64.wrap (o.Total - p) = o.Total - p := by
  have := (RT.right_bnd h).tot
  have := (wrap_iff .i64 p).1 hp; change -9223372036854775808 ≤ p ∧ p ≤ 9223372036854775807 at this
  rw [w64] <;> omega
theorem m61 (o : GPolicy) (ho : o.ok) (a : Int) (f : ByteArray) (p s : Int) (hp : IntKind.i64.wrap p = p) : Try.m61.R (o, a, f, p, s) (ag o a f p s) := by
  refine U.run_ite (fun h1 => U.run_ret ?_) (fun h1 => U.run_ite (fun h2 => U.run_ret ?_) (fun h2 => U.run_ite (fun h3 => U.run_ret ?_) (fun h3 => U.run_call _ (m129 o ho) (U.run_ite (fun h4 => U.run_ret ?_) (fun h4 => U.run_call _ (m63 o ho f) (U.run_ite (fun h5 => U.run_ret ?_) (fun h5 => ?_)))))))
  · exact (ag_no (.inl (of_decide_eq_true h1))).symm
  · exact (ag_no (.inr (.inl (of_decide_eq_true h2)))).symm
  · exact (ag_no (.inr (.inr (.inl (of_decide_eq_true h3))))).symm
  · rw [Bool.not_eq_true'] at h4
    exact (ag_no (.inr (.inr (.inr (.inl h4))))).symm
  · exact (ag_no (.inr (.inr (.inr (.inr h5))))).symm
  rw [Bool.not_eq_false'] at h4
  have h3' : ¬ p < 0 := of_decide_eq_false h3
  have e := ag_yes (o := o) (a := a) (f := f) (p := p) (s := s) (by rintro (h | h | h | h | h); exact of_decide_eq_false h1 h; exact of_decide_eq_false h2 h; exact h3' h; rw [h4] at h; cases h; rw [h5] at h; cases h)
  rw [e]
  have hs0 : ¬ (0 < o.Attempts ∧ o.Attempts ≤ a) → Ev Try.c61 (.s0 a p s o) (if 0 < o.Attempts ∧ o.Attempts ≤ a then (0, false) else if 0 < o.Total ∧ o.Total - p ≤ dl o a s then (0, false) else (dl o a s, true)) := by
    intro hn
    rw [if_neg hn]
    refine Ev.intro (U.run_call _ (m59 o ho a s) (U.run_ite (fun h6 => U.run_ite (fun h7 => U.run_ret ?_) (fun h7 => U.run_ret ?_)) (fun h6 => U.run_ret ?_)))
    · rw [totw h4 hp h3'] at h7
      show _ = _; rw [if_pos ⟨of_decide_eq_true h6, of_decide_eq_true h7⟩]
    · rw [totw h4 hp h3'] at h7
      show _ = _; rw [if_neg (fun q => of_decide_eq_false h7 q.2)]
    · show _ = _; rw [if_neg (fun q => of_decide_eq_false h6 q.1)]
  refine U.run_ite (fun h6 => U.run_ite (fun h7 => U.run_ret ?_) (fun h7 => U.run_jump (hs0 (fun q => of_decide_eq_false h7 q.2)))) (fun h6 => U.run_jump (hs0 (fun q => of_decide_eq_false h6 q.1)))
  show _ = _; rw [if_pos ⟨of_decide_eq_true h6, of_decide_eq_true h7⟩]
theorem m62 (o : GPolicy) (ho : o.ok) (a : Int) (f : ByteArray) (p s : Int) (hp : IntKind.i64.wrap p = p) : Try.m62.R (o, a, f, p, s) (ag o a f p s) := by
  refine U.run_call _ (m65 o ho) (U.run_ite (fun h4 => U.run_ret ?_) (fun h4 => U.run_ite (fun h1 => U.run_ret ?_) (fun h1 => U.run_ite (fun h3 => U.run_ret ?_) (fun h3 => U.run_call _ (m64 o ho f) (U.run_ite (fun h5 => U.run_ret ?_) (fun h5 => ?_))))))
  · rw [Bool.not_eq_true'] at h4
    exact (ag_no (.inr (.inr (.inr (.inl h4))))).symm
  · exact (ag_no (.inl (of_decide_eq_true h1))).symm
  · exact (ag_no (.inr (.inr (.inl (of_decide_eq_true h3))))).symm
  · exact (ag_no (.inr (.inr (.inr (.inr h5))))).symm
  rw [Bool.not_eq_false'] at h4
  have h3' : ¬ p < 0 := of_decide_eq_false h3
  have hs0 : ¬ (0 < o.Attempts ∧ o.Attempts ≤ a) → ¬ 1000 ≤ a → Ev Try.c62 (.s0 a p s o) (ag o a f p s) := by
    intro hn hk
    have e := ag_yes (o := o) (a := a) (f := f) (p := p) (s := s) (by rintro (h | h | h | h | h); exact of_decide_eq_false h1 h; exact hk h; exact h3' h; rw [h4] at h; cases h; rw [h5] at h; cases h)
    rw [e, if_neg hn]
    refine Ev.intro (U.run_call _ (m60 o ho a s) (U.run_ite (fun h6 => U.run_ite (fun h7 => U.run_ret ?_) (fun h7 => U.run_ret ?_)) (fun h6 => U.run_ret ?_)))
    · rw [totw h4 hp h3'] at h7
      show _ = _; rw [if_pos ⟨of_decide_eq_true h6, of_decide_eq_true h7⟩]
    · rw [totw h4 hp h3'] at h7
      show _ = _; rw [if_neg (fun q => of_decide_eq_false h7 q.2)]
    · show _ = _; rw [if_neg (fun q => of_decide_eq_false h6 q.1)]
  have hno : 0 < o.Attempts ∧ o.Attempts ≤ a → ag o a f p s = (0, false) := by
    intro hn
    by_cases hk : 1000 ≤ a
    · exact ag_no (.inr (.inl hk))
    · rw [ag_yes (by rintro (h | h | h | h | h); exact of_decide_eq_false h1 h; exact hk h; exact h3' h; rw [h4] at h; cases h; rw [h5] at h; cases h), if_pos hn]
  refine U.run_ite (fun h6 => U.run_ite (fun h7 => U.run_ret ?_) (fun h7 => U.run_ite (fun h8 => U.run_ret ?_) (fun h8 => U.run_jump (hs0 (fun q => of_decide_eq_false h7 q.2) (of_decide_eq_false h8))))) (fun h6 => U.run_ite (fun h8 => U.run_ret ?_) (fun h8 => U.run_jump (hs0 (fun q => of_decide_eq_false h6 q.1) (of_decide_eq_false h8))))
  · exact (hno ⟨of_decide_eq_true h6, of_decide_eq_true h7⟩).symm
  · exact (ag_no (.inr (.inl (of_decide_eq_true h8)))).symm
  · exact (ag_no (.inr (.inl (of_decide_eq_true h8)))).symm
end AP
end Go.Proofs
/- Activities: what the printed walks compute. -/
set_option linter.unusedVariables false
set_option maxRecDepth 4000
namespace Go.Proofs
open Go Go.AV
namespace AC
open VU AP
attribute [local irreducible] Runs
def vz : GVal := GVal.mk 0 0 (⟨#[]⟩ : ByteArray) [] []
theorem vz_ok : vz.ok := ⟨rfl, rfl, by decide, ⟨trivial, by decide⟩, ⟨by simp, by decide⟩, trivial⟩
def oz : GPolicy := GPolicy.mk (⟨#[]⟩ : ByteArray) 0 0 0 0 0 0 0 0 []
theorem oz_ok : oz.ok := ⟨by decide, rfl, rfl, rfl, rfl, rfl, rfl, rfl, rfl, ⟨by simp [oz], by decide⟩, trivial⟩
def az : GAct := GAct.mk 0 0 (⟨#[]⟩ : ByteArray) vz oz 0 0 0 0 0 0 0 false vz (⟨#[]⟩ : ByteArray)
def aok (a : GAct) : Prop := a.Data.ok ∧ a.Opts.ok ∧ a.Details.ok
theorem aok_of {a : GAct} (h : a.ok) : aok a := ⟨h.2.2.2.1, h.2.2.2.2.1, h.2.2.2.2.2.2.2.2.2.2.2.2.2.1⟩
theorem okD {a : GAct} (h : aok a) : a.Data.ok := h.1
theorem okO {a : GAct} (h : aok a) : a.Opts.ok := h.2.1
theorem okE {a : GAct} (h : aok a) : a.Details.ok := h.2.2
/-! ### How much -/
def kf : List ByteArray → Int → Int
  | [], m => m
  | k :: r, m => if decide (0 ≤ m) = true then kf r (IntKind.i64.wrap (m - (k.size : Int))) else m
mutual
def few : GVal → Int → Int
  | .mk _ _ t is ks, m => fews is (kf ks (IntKind.i64.wrap (IntKind.i64.wrap (m - 1) - (t.size : Int))))
def fews : List GVal → Int → Int
  | [], m => m
  | x :: r, m => if decide (0 ≤ m) = true then fews r (few x m) else m
end
theorem few_eq (v : GVal) (m : Int) : few v m = fews v.Items (kf v.Keys (IntKind.i64.wrap (IntKind.i64.wrap (m - 1) - (v.Text.size : Int)))) := by cases v; rfl
theorem few123 : ∀ n (v : GVal) (m : Int), SizeOf.sizeOf v < n → v.ok → (Try.n123 n).1 (v, m) (few v m)
  | 0, v, m, h, _ => absurd h (Nat.not_lt_zero _)
  | n + 1, v, m, h, hv => by
    obtain ⟨h1, h2⟩ := GVal.okI hv
    obtain ⟨h3, h4⟩ := GVal.okK hv
    have hs1 : ∀ k, Ev (Try.c123 (Try.n123 n).1 (Try.n123 n).2) (.s1 k v) (fews v.Items k) := by
      intro k
      refine Ev.intro (U.run_jump ?_)
      show Ev _ _ _
      refine (U.ev_for v.Items (fun i k => Try.J123.s2 k v i) (fun _ _ => True) (fun l k => fews l k) (reach80 h2) ?_ ?_ k trivial :)
      · intro s _; exact U.run_len (U.run_f U.dec_f (U.run_ret rfl))
      · intro i hi s _ hw ht x r hx hm y hy ih
        refine U.run_len (U.run_t ht (U.run_ite (fun hb => U.run_elemX hi hx (U.run_call _ (few123 n x s (sub h hm) (h1 _ hm)) (U.run_jump ?_))) (fun hb => U.run_ret ?_)))
        · show Ev _ _ _
          rw [hw]; refine ih _ trivial ?_
          rw [hy, fews, if_pos hb]
        · show _ = _
          rw [hy, fews, if_neg (by rw [hb]; decide)]
    rw [few_eq]
    refine U.run_jump ?_
    show Ev _ _ _
    refine (U.ev_for v.Keys (fun i k => Try.J123.s0 k v i) (fun _ _ => True) (fun l k => fews v.Items (kf l k)) (reach16 h4) ?_ ?_ _ trivial :)
    · intro s _; exact U.run_len (U.run_f U.dec_f (U.run_jump (hs1 s)))
    · intro i hi s _ hw ht x r hx hm y hy ih
      refine U.run_len (U.run_t ht (U.run_ite (fun hb => U.run_elemX hi hx (U.run_jump ?_)) (fun hb => U.run_jump ?_)))
      · show Ev _ _ _
        rw [hw]; refine ih _ trivial ?_
        rw [hy, kf, if_pos hb]
      · show Ev _ _ _
        rw [hy, kf, if_neg (by rw [hb]; decide)]
        exact hs1 s
theorem m123 (v : GVal) (m : Int) (hv : v.ok) : Try.m123.R (v, m) (few v m) := ⟨_, few123 (SizeOf.sizeOf v + 1) v m (Nat.lt_succ_self _) hv⟩
def ml : List ByteArray → Int → Bool
  | [], m => decide (0 ≤ m)
  | x :: r, m => if decide (0 ≤ m) = true then ml r (IntKind.i64.wrap (IntKind.i64.wrap (m - 1) - (x.size : Int))) else decide (0 ≤ m)
def sm (e : GEvent) : Bool := ml e.Opts.Fatal (IntKind.i64.wrap (IntKind.i64.wrap (IntKind.i64.wrap (few e.Data 6000 - (e.Name.size : Int)) - (e.Key.size : Int)) - (e.Opts.Queue.size : Int)))
theorem m98 (e : GEvent) (hd : e.Data.ok) (ho : e.Opts.ok) : Try.m98.R e (sm e) := by
  refine U.run_call _ (m123 e.Data 6000 hd) (U.run_jump ?_)
  show Ev _ _ _
  refine (U.ev_for e.Opts.Fatal (fun i k => Try.J98.s0 e k i) (fun _ _ => True) (fun l k => ml l k) (fat_len ho) ?_ ?_ _ trivial :)
  · intro s _; exact U.run_len (U.run_f U.dec_f (U.run_ret rfl))
  · intro i hi s _ hw ht x r hx hm y hy ih
    refine U.run_len (U.run_t ht (U.run_ite (fun hb => U.run_elemX hi hx (U.run_jump ?_)) (fun hb => U.run_ret ?_)))
    · show Ev _ _ _
      rw [hw]; refine ih _ trivial ?_
      rw [hy, ml, if_pos hb]
    · show _ = _
      rw [hy, ml, if_neg (by rw [hb]; decide)]
def small (a : GAct) : Bool := sm (GEvent.mk 0 0 0 0 0 0 0 a.Name a.Failure a.Data a.Opts) && sm (GEvent.mk 0 0 0 0 0 0 0 (⟨#[]⟩ : ByteArray) (⟨#[]⟩ : ByteArray) a.Details oz)
theorem m88 (a : GAct) (ha : aok a) : Try.m88.R a (small a) := by
  refine U.run_call _ (m98 (GEvent.mk 0 0 0 0 0 0 0 a.Name a.Failure a.Data a.Opts) (okD ha) (okO ha)) (U.run_ite (fun h => U.run_call _ (m98 (GEvent.mk 0 0 0 0 0 0 0 (⟨#[]⟩ : ByteArray) (⟨#[]⟩ : ByteArray) a.Details oz) (okE ha) oz_ok) (U.run_ret ?_)) (fun h => U.run_ret ?_))
  · show _ = _; unfold small; rw [h]; rfl
  · show _ = _; unfold small; rw [h]; rfl
/-! ### Attempts -/
theorem m161 (a : GAct) (ha : aok a) : Try.m161.R a a := by
  refine U.run_call _ (m153 a.Data (okD ha)) (U.run_call _ (m153 a.Details (okE ha)) (U.run_app ?_ (U.run_ret ?_)))
  · have := RT.ok_fatal (okO ha); have := reach_eq; simp; omega
  · show _ = _
    rw [List.nil_append]
def clk (n : Int) : Bool := decide (0 ≤ n) && decide (n ≤ 1099511627776)
theorem m165 (n : Int) : Try.m165.R n (clk n) := by
  refine U.run_ite (fun h => U.run_ret ?_) (fun h => U.run_ret ?_)
  · show _ = _; unfold clk; rw [h]; rfl
  · show _ = _; unfold clk; rw [h]; rfl
theorem m184 (n : Int) : Try.m184.R n (clk n) := by
  refine U.run_ite (fun h => U.run_ret ?_) (fun h => U.run_ret ?_)
  · show _ = _; unfold clk; rw [h]; rfl
  · show _ = _; unfold clk; rw [h]; rfl
def cap (n : Int) : Int := if 1099511627776 < n then 1099511627776 else n
def nxt (a : GAct) (now : Int) (f : ByteArray) (d : Int) : GAct := GAct.mk a.Seq a.Event a.Name a.Data a.Opts 1 (IntKind.i64.wrap (a.Attempt + 1)) a.Scheduled (cap (IntKind.i64.wrap (now + d))) 0 0 0 a.Cancel a.Details f
def agr (a : GAct) (now : Int) (f : ByteArray) (s : Int) : Int × Bool := ag a.Opts a.Attempt f (IntKind.i64.wrap (now - a.Scheduled)) s
def agn (a : GAct) (now : Int) (f : ByteArray) (s : Int) : GAct × Bool :=
  if a.Cancel = true then (a, false) else if clk now = false then (a, false) else if decide (a.Scheduled < 0) = true then (a, false) else if decide (now < a.Scheduled) = true then (a, false)
  else if (agr a now f s).2 = false then (a, false) else (nxt a now f (agr a now f s).1, true)
theorem m162 (a : GAct) (ha : aok a) (now : Int) (f : ByteArray) (s : Int) : Try.m162.R (a, now, f, s) (agn a now f s) := by
  refine U.run_ite (fun h1 => U.run_ret ?_) (fun h1 => U.run_call _ (m165 now) (U.run_ite (fun h2 => U.run_ret ?_) (fun h2 => U.run_ite (fun h3 => U.run_ret ?_) (fun h3 => U.run_ite (fun h4 => U.run_ret ?_) (fun h4 => U.run_call _ (m61 a.Opts (okO ha) a.Attempt f (IntKind.i64.wrap (now - a.Scheduled)) s (wrap_wrap _ _)) (U.run_ite (fun h5 => U.run_ret ?_) (fun h5 => U.run_ret ?_)))))))
  · show _ = agn a now f s; unfold agn; rw [if_pos h1]
  · show _ = agn a now f s; unfold agn; rw [if_neg (by rw [h1]; decide), if_pos (by rw [Bool.not_eq_true'] at h2; exact h2)]
  · show _ = agn a now f s; unfold agn; rw [if_neg (by rw [h1]; decide), if_neg (by rw [Bool.not_eq_false'] at h2; rw [h2]; decide), if_pos h3]
  · show _ = agn a now f s; unfold agn; rw [if_neg (by rw [h1]; decide), if_neg (by rw [Bool.not_eq_false'] at h2; rw [h2]; decide), if_neg (by rw [h3]; decide), if_pos h4]
  · have h5' : (agr a now f s).2 = false := by rw [Bool.not_eq_true'] at h5; exact h5
    show _ = agn a now f s; unfold agn
    rw [if_neg (by rw [h1]; decide), if_neg (by rw [Bool.not_eq_false'] at h2; rw [h2]; decide), if_neg (by rw [h3]; decide), if_neg (by rw [h4]; decide), if_pos h5']
  · have h5' : (agr a now f s).2 = true := by rw [Bool.not_eq_false'] at h5; exact h5
    have e : agn a now f s = (nxt a now f (agr a now f s).1, true) := by
      unfold agn
      rw [if_neg (by rw [h1]; decide), if_neg (by rw [Bool.not_eq_false'] at h2; rw [h2]; decide), if_neg (by rw [h3]; decide), if_neg (by rw [h4]; decide), if_neg (by rw [h5']; decide)]
    show _ = agn a now f s
    rw [e]; rfl
theorem m163 (a : GAct) (ha : aok a) (now : Int) (f : ByteArray) (s : Int) : Try.m163.R (a, now, f, s) (agn a now f s) := by
  refine U.run_ite (fun h1 => U.run_ret ?_) (fun h1 => U.run_call _ (m184 now) (U.run_ite (fun h2 => U.run_ret ?_) (fun h2 => U.run_ite (fun h3 => U.run_ret ?_) (fun h3 => U.run_ite (fun h4 => U.run_ret ?_) (fun h4 => U.run_call _ (m62 a.Opts (okO ha) a.Attempt f (IntKind.i64.wrap (now - a.Scheduled)) s (wrap_wrap _ _)) (U.run_ite (fun h5 => U.run_ret ?_) (fun h5 => U.run_ite (fun h6 => U.run_jump ?_) (fun h6 => U.run_jump ?_))))))))
  · show _ = agn a now f s; unfold agn; rw [if_pos h1]
  · show _ = agn a now f s; unfold agn; rw [if_neg (by rw [h1]; decide), if_pos (by rw [Bool.not_eq_true'] at h2; exact h2)]
  · show _ = agn a now f s; unfold agn; rw [if_neg (by rw [h1]; decide), if_neg (by rw [Bool.not_eq_false'] at h2; rw [h2]; decide), if_pos h3]
  · show _ = agn a now f s; unfold agn; rw [if_neg (by rw [h1]; decide), if_neg (by rw [Bool.not_eq_false'] at h2; rw [h2]; decide), if_neg (by rw [h3]; decide), if_pos h4]
  · have h5' : (agr a now f s).2 = false := by rw [Bool.not_eq_true'] at h5; exact h5
    show _ = agn a now f s; unfold agn
    rw [if_neg (by rw [h1]; decide), if_neg (by rw [Bool.not_eq_false'] at h2; rw [h2]; decide), if_neg (by rw [h3]; decide), if_neg (by rw [h4]; decide), if_pos h5']
  all_goals
    have h5' : (agr a now f s).2 = true := by rw [Bool.not_eq_false'] at h5; exact h5
    have e : agn a now f s = (nxt a now f (agr a now f s).1, true) := by
      unfold agn
      rw [if_neg (by rw [h1]; decide), if_neg (by rw [Bool.not_eq_false'] at h2; rw [h2]; decide), if_neg (by rw [h3]; decide), if_neg (by rw [h4]; decide), if_neg (by rw [h5']; decide)]
    show Ev _ _ (agn a now f s)
    rw [e]
  · refine Ev.intro (U.run_ret ?_)
    show _ = _
    unfold nxt cap agr; rw [if_pos (of_decide_eq_true h6)]
  · refine Ev.intro (U.run_ret ?_)
    show _ = _
    unfold nxt cap agr; rw [if_neg (of_decide_eq_false h6)]
def rt : GAOutcome := GAOutcome.mk 0 true 0 (⟨#[]⟩ : ByteArray)
def fl (a : GAct) (now : Int) (f : ByteArray) (s : Int) : GAct × GAOutcome := if (agn a now f s).2 = true then ((agn a now f s).1, rt) else (a, GAOutcome.mk 10 false 0 f)
theorem m90 (a : GAct) (ha : aok a) (now : Int) (f : ByteArray) (s : Int) : Try.m90.R (a, now, f, s) (fl a now f s) := by
  refine U.run_call _ (m161 a ha) (U.run_call _ (m162 a ha now f s) (U.run_ite (fun h => U.run_ret ?_) (fun h => U.run_ret ?_)))
  · show _ = _; unfold fl; rw [if_pos h]; rfl
  · show _ = _; unfold fl; rw [if_neg (by rw [h]; decide)]
theorem m91 (a : GAct) (ha : aok a) (now : Int) (f : ByteArray) (s : Int) : Try.m91.R (a, now, f, s) (fl a now f s) := by
  refine U.run_call _ (m163 a ha now f s) (U.run_ite (fun h => U.run_ret ?_) (fun h => U.run_ret ?_))
  · show _ = _; unfold fl; rw [if_pos h]; rfl
  · show _ = _; unfold fl; rw [if_neg (by rw [h]; decide)]
/-! ### Deadlines -/
def end3 (o f : Int) (b : Bool) : Int × Bool :=
  if b = false then (0, false) else if decide (o < 1) = true then (0, false) else if decide (1099511627776 < o) = true then (0, false) else if decide (f < 0) = true then (0, false) else if decide (4611686018427387904 < f) = true then (0, false) else (IntKind.i64.wrap (f + o), true)
def due (a : GAct) (k : Int) : Int × Bool :=
  if (k == 1) = true then end3 a.Opts.ToStart a.Due (a.State == 1)
  else if (k == 2) = true then end3 a.Opts.ToClose a.Started (a.State == 2)
  else if (k == 3) = true then end3 a.Opts.Total a.Scheduled (a.State == 1 || a.State == 2)
  else if (k == 4) = true then end3 a.Opts.Beat (if a.Started < a.LastBeat then a.LastBeat else a.Started) (a.State == 2)
  else (0, false)
theorem e30 (o f : Int) (b : Bool) : Ev Try.c30 (.s0 o f b) (end3 o f b) := by
  refine Ev.intro (U.run_ite (fun h1 => U.run_ret ?_) (fun h1 => U.run_ite (fun h2 => U.run_ret ?_) (fun h2 => U.run_ite (fun h3 => U.run_ret ?_) (fun h3 => U.run_ite (fun h4 => U.run_ret ?_) (fun h4 => U.run_ite (fun h5 => U.run_ret ?_) (fun h5 => U.run_ret ?_))))))
  all_goals show _ = end3 o f b
  all_goals unfold end3
  · rw [Bool.not_eq_true'] at h1; rw [if_pos h1]
  all_goals (rw [Bool.not_eq_false'] at h1; rw [if_neg (by rw [h1]; decide)])
  · rw [if_pos h2]
  · rw [if_neg (by rw [h2]; decide), if_pos h3]
  · rw [if_neg (by rw [h2]; decide), if_neg (by rw [h3]; decide), if_pos h4]
  · rw [if_neg (by rw [h2]; decide), if_neg (by rw [h3]; decide), if_neg (by rw [h4]; decide), if_pos h5]
  · rw [if_neg (by rw [h2]; decide), if_neg (by rw [h3]; decide), if_neg (by rw [h4]; decide), if_neg (by rw [h5]; decide)]
theorem e31 (o f : Int) (b : Bool) : Ev Try.c31 (.s0 o f b) (end3 o f b) := by
  refine Ev.intro (U.run_ite (fun h1 => U.run_ret ?_) (fun h1 => U.run_ite (fun h2 => U.run_ret ?_) (fun h2 => U.run_ite (fun h3 => U.run_ret ?_) (fun h3 => U.run_ite (fun h4 => U.run_ret ?_) (fun h4 => U.run_ite (fun h5 => U.run_ret ?_) (fun h5 => U.run_ret ?_))))))
  all_goals show _ = end3 o f b
  all_goals unfold end3
  · rw [Bool.not_eq_true'] at h1; rw [if_pos h1]
  all_goals (rw [Bool.not_eq_false'] at h1; rw [if_neg (by rw [h1]; decide)])
  · rw [if_pos h2]
  · rw [if_neg (by rw [h2]; decide), if_pos h3]
  · rw [if_neg (by rw [h2]; decide), if_neg (by rw [h3]; decide), if_pos h4]
  · rw [if_neg (by rw [h2]; decide), if_neg (by rw [h3]; decide), if_neg (by rw [h4]; decide), if_pos h5]
  · rw [if_neg (by rw [h2]; decide), if_neg (by rw [h3]; decide), if_neg (by rw [h4]; decide), if_neg (by rw [h5]; decide)]
theorem due1 {a : GAct} {k : Int} (h1 : (k == 1) = true) : due a k = end3 a.Opts.ToStart a.Due (a.State == 1) := by unfold due; rw [if_pos h1]
theorem due2 {a : GAct} {k : Int} (h1 : (k == 1) = false) (h2 : (k == 2) = true) : due a k = end3 a.Opts.ToClose a.Started (a.State == 2) := by unfold due; rw [if_neg (show ¬ (k == 1) = true by rw [h1]; decide), if_pos h2]
theorem due3 {a : GAct} {k : Int} (h1 : (k == 1) = false) (h2 : (k == 2) = false) (h3 : (k == 3) = true) : due a k = end3 a.Opts.Total a.Scheduled (a.State == 1 || a.State == 2) := by unfold due; rw [if_neg (show ¬ (k == 1) = true by rw [h1]; decide), if_neg (show ¬ (k == 2) = true by rw [h2]; decide), if_pos h3]
theorem due4 {a : GAct} {k : Int} (h1 : (k == 1) = false) (h2 : (k == 2) = false) (h3 : (k == 3) = false) (h4 : (k == 4) = true) : due a k = end3 a.Opts.Beat (if a.Started < a.LastBeat then a.LastBeat else a.Started) (a.State == 2) := by unfold due; rw [if_neg (show ¬ (k == 1) = true by rw [h1]; decide), if_neg (show ¬ (k == 2) = true by rw [h2]; decide), if_neg (show ¬ (k == 3) = true by rw [h3]; decide), if_pos h4]
theorem due5 {a : GAct} {k : Int} (h1 : (k == 1) = false) (h2 : (k == 2) = false) (h3 : (k == 3) = false) (h4 : (k == 4) = false) : due a k = (0, false) := by unfold due; rw [if_neg (show ¬ (k == 1) = true by rw [h1]; decide), if_neg (show ¬ (k == 2) = true by rw [h2]; decide), if_neg (show ¬ (k == 3) = true by rw [h3]; decide), if_neg (show ¬ (k == 4) = true by rw [h4]; decide)]
theorem m30 (a : GAct) (k : Int) : Try.m30.R (a, k) (due a k) := by
  refine U.run_ite (fun h1 => U.run_jump ?_) (fun h1 => U.run_ite (fun h2 => U.run_jump ?_) (fun h2 => U.run_ite (fun h3 => U.run_ite (fun h4 => U.run_jump ?_) (fun h4 => U.run_jump ?_)) (fun h3 => U.run_ite (fun h4 => U.run_jump ?_) (fun h4 => U.run_jump ?_))))
  all_goals show Ev _ _ (due a k)
  · rw [due1 h1]; exact e30 _ _ _
  · rw [due2 h1 h2]; exact e30 _ _ _
  · rw [due3 h1 h2 h3, show (a.State == 1) = true from h4]; exact e30 _ _ _
  · rw [due3 h1 h2 h3, show (a.State == 1) = false from h4]; exact e30 _ _ _
  · rw [due4 h1 h2 h3 h4]; exact e30 _ _ _
  · rw [due5 h1 h2 h3 h4]; exact e30 0 0 false
theorem m122 (k : Int) : Try.m122.R k (if (k == 1) = true then 1 else 2) := by
  refine U.run_ite (fun h => U.run_ret ?_) (fun h => U.run_ret ?_)
  · show _ = _; rw [if_pos h]
  · show _ = _; rw [if_neg (by rw [h]; decide)]
theorem m31 (a : GAct) (k : Int) : Try.m31.R (a, k) (due a k) := by
  refine U.run_call _ (m122 k) (U.run_ite (fun h1 => U.run_jump ?_) (fun h1 => U.run_ite (fun h2 => U.run_jump ?_) (fun h2 => U.run_ite (fun h3 => U.run_ite (fun h4 => U.run_jump ?_) (fun h4 => U.run_jump ?_)) (fun h3 => U.run_ite (fun h4 => U.run_ite (fun h5 => U.run_jump ?_) (fun h5 => U.run_jump ?_)) (fun h4 => U.run_jump ?_)))))
  all_goals show Ev _ _ (due a k)
  · rw [due1 h1, if_pos h1]; exact e31 _ _ _
  · rw [due2 h1 h2, if_neg (show ¬ (k == 1) = true by rw [show (k == 1) = false from h1]; decide)]; exact e31 _ _ _
  · rw [due3 h1 h2 h3, show (a.State == 1) = true from h4]; exact e31 _ _ _
  · rw [due3 h1 h2 h3, show (a.State == 1) = false from h4]; exact e31 _ _ _
  · rw [due4 h1 h2 h3 h4, if_pos (show a.Started < a.LastBeat from of_decide_eq_true h5), if_neg (show ¬ (k == 1) = true by rw [show (k == 1) = false from h1]; decide)]; exact e31 _ _ _
  · rw [due4 h1 h2 h3 h4, if_neg (show ¬ a.Started < a.LastBeat from of_decide_eq_false h5), if_neg (show ¬ (k == 1) = true by rw [show (k == 1) = false from h1]; decide)]; exact e31 _ _ _
  · rw [due5 h1 h2 h3 h4, if_neg (show ¬ (k == 1) = true by rw [show (k == 1) = false from h1]; decide)]
    have e := e31 0 0 (a.State == 2)
    have : end3 0 0 (a.State == 2) = (0, false) := by unfold end3; split <;> rfl
    rw [this] at e
    exact e
def stp (a : GAct) (p : Int × Int) (k : Int) : Int × Int := if (due a k).2 = true then (if (p.2 == 0) = true then ((due a k).1, k) else if decide ((due a k).1 < p.1) = true then ((due a k).1, k) else p) else p
def first (a : GAct) : Int × Int := stp a (stp a (stp a (stp a (0, 0) 1) 2) 3) 4
theorem s33 (a : GAct) (p : Int × Int) (k : Int) (y : Int × Int) (hk : 1 ≤ k ∧ k ≤ 4) (h : Ev Try.c33 (.s0 a (stp a p k).1 (stp a p k).2 (k + 1)) y) : Ev Try.c33 (.s0 a p.1 p.2 k) y := by
  have hw : IntKind.i64.wrap (k + 1) = k + 1 := by rw [JT.i64w]; omega
  unfold stp at h
  refine Ev.intro (U.run_t (decide_eq_true hk.2) (U.run_call _ (m30 a k) (U.run_ite (fun h1 => U.run_ite (fun h2 => U.run_jump ?_) (fun h2 => U.run_ite (fun h3 => U.run_jump ?_) (fun h3 => U.run_jump ?_))) (fun h1 => U.run_jump ?_))))
  · rw [if_pos h1, if_pos h2] at h; show Ev _ _ _; rw [hw]; exact h
  · rw [if_pos h1, if_neg (by rw [h2]; decide), if_pos h3] at h; show Ev _ _ _; rw [hw]; exact h
  · rw [if_pos h1, if_neg (by rw [h2]; decide), if_neg (by rw [h3]; decide)] at h; show Ev _ _ _; rw [hw]; exact h
  · rw [if_neg (by rw [h1]; decide)] at h; show Ev _ _ _; rw [hw]; exact h
theorem s34 (a : GAct) (p : Int × Int) (k : Int) (y : Int × Int) (hk : 1 ≤ k ∧ k ≤ 4) (h : Ev Try.c34 (.s0 a (stp a p k).1 (stp a p k).2 (k + 1)) y) : Ev Try.c34 (.s0 a p.1 p.2 k) y := by
  have hw : IntKind.i64.wrap (k + 1) = k + 1 := by rw [JT.i64w]; omega
  unfold stp at h
  refine Ev.intro (U.run_t (decide_eq_true hk.2) (U.run_call _ (m31 a k) (U.run_ite (fun h1 => U.run_ite (fun h2 => U.run_jump ?_) (fun h2 => U.run_ite (fun h3 => U.run_jump ?_) (fun h3 => U.run_jump ?_))) (fun h1 => U.run_jump ?_))))
  · rw [if_pos h1, if_pos h2] at h; show Ev _ _ _; rw [hw]; exact h
  · rw [if_pos h1, if_neg (by rw [h2]; decide), if_pos h3] at h; show Ev _ _ _; rw [hw]; exact h
  · rw [if_pos h1, if_neg (by rw [h2]; decide), if_neg (by rw [h3]; decide)] at h; show Ev _ _ _; rw [hw]; exact h
  · rw [if_neg (by rw [h1]; decide)] at h; show Ev _ _ _; rw [hw]; exact h
theorem m33 (a : GAct) : Try.m33.R a (first a) := by
  refine U.run_jump ?_
  show Ev _ (Try.J33.s0 a ((0, 0) : Int × Int).1 ((0, 0) : Int × Int).2 1) _
  refine s33 a _ 1 _ (by decide) (s33 a _ 2 _ (by decide) (s33 a _ 3 _ (by decide) (s33 a _ 4 _ (by decide) (Ev.intro (U.run_f (by decide) (U.run_ret rfl))))))
theorem m34 (a : GAct) : Try.m34.R a (first a) := by
  refine U.run_jump ?_
  show Ev _ (Try.J34.s0 a ((0, 0) : Int × Int).1 ((0, 0) : Int × Int).2 1) _
  refine s34 a _ 1 _ (by decide) (s34 a _ 2 _ (by decide) (s34 a _ 3 _ (by decide) (s34 a _ 4 _ (by decide) (Ev.intro (U.run_f (by decide) (U.run_ret rfl))))))
def passed (a : GAct) (now : Int) : Int := if ((first a).2 == 0) = true then 0 else if decide (now < (first a).1) = true then 0 else (first a).2
theorem m35 (a : GAct) (now : Int) : Try.m35.R (a, now) (passed a now) := by
  refine U.run_call _ (m33 a) (U.run_ite (fun h => U.run_ite (fun h2 => U.run_ret ?_) (fun h2 => U.run_ret ?_)) (fun h => U.run_ret ?_))
  all_goals show _ = passed a now
  all_goals unfold passed
  · rw [bne, Bool.not_eq_true'] at h; rw [if_neg (by rw [h]; decide), if_pos h2]
  · rw [bne, Bool.not_eq_true'] at h; rw [if_neg (by rw [h]; decide), if_neg (by rw [h2]; decide)]
  · rw [bne, Bool.not_eq_false'] at h; rw [if_pos h]; simpa using h
theorem m36 (a : GAct) (now : Int) : Try.m36.R (a, now) (passed a now) := by
  refine U.run_call _ (m34 a) (U.run_ite (fun h => U.run_ret ?_) (fun h => U.run_ite (fun h2 => U.run_ret ?_) (fun h2 => U.run_ret ?_)))
  all_goals show _ = passed a now
  all_goals unfold passed
  · rw [if_pos h]
  · rw [if_neg (by rw [h]; decide), if_pos h2]
  · rw [if_neg (by rw [h]; decide), if_neg (by rw [h2]; decide)]
def tmo : ByteArray := ⟨#[116, 105, 109, 101, 111, 117, 116]⟩
def xp (a : GAct) (now s : Int) : GAct × GAOutcome :=
  if (passed a now == 0) = true then (a, GAOutcome.mk 0 false 0 (⟨#[]⟩ : ByteArray))
  else if (passed a now == 2 || passed a now == 4) = true ∧ (agn a now tmo s).2 = true then ((agn a now tmo s).1, rt) else (a, GAOutcome.mk 11 false (passed a now) (⟨#[]⟩ : ByteArray))
theorem m92 (a : GAct) (ha : aok a) (now s : Int) : Try.m92.R (a, now, s) (xp a now s) := by
  have hs0 : ∀ t o b, (passed a now == 0) = false → b = (passed a now == 2 || passed a now == 4) → Ev Try.c92 (.s0 now s a t o (passed a now) b) (xp a now s) := by
    intro t o b h0 hb
    unfold xp
    rw [if_neg (by rw [h0]; decide), ← hb]
    refine Ev.intro (U.run_ite (fun h => U.run_call _ (m162 a ha now tmo s) (U.run_ite (fun h2 => U.run_ret ?_) (fun h2 => U.run_ret ?_))) (fun h => U.run_ret ?_))
    · show _ = _; rw [if_pos ⟨h, h2⟩]; rfl
    · show _ = _; rw [if_neg (fun q => by rw [h2] at q; cases q.2)]
    · show _ = _; rw [if_neg (fun q => by rw [h] at q; cases q.1)]
  refine U.run_call _ (m161 a ha) (U.run_call _ (m35 a now) (U.run_ite (fun h => U.run_ret ?_) (fun h => U.run_ite (fun h2 => U.run_jump ?_) (fun h2 => U.run_jump ?_))))
  · show _ = _; unfold xp; rw [if_pos h]
  · exact hs0 _ _ _ h (by rw [h2]; rfl)
  · exact hs0 _ _ _ h (by rw [h2]; rfl)
theorem m93 (a : GAct) (ha : aok a) (now s : Int) : Try.m93.R (a, now, s) (xp a now s) := by
  have hs0 : ∀ t o b, (passed a now == 0) = false → b = (passed a now == 2 || passed a now == 4) → Ev Try.c93 (.s0 now s a t o (passed a now) b) (xp a now s) := by
    intro t o b h0 hb
    unfold xp
    rw [if_neg (by rw [h0]; decide), ← hb]
    refine Ev.intro (U.run_ite (fun h => U.run_call _ (m163 a ha now tmo s) (U.run_ite (fun h2 => U.run_ret ?_) (fun h2 => U.run_ret ?_))) (fun h => U.run_ret ?_))
    · show _ = _; rw [if_pos ⟨h, h2⟩]; rfl
    · show _ = _; rw [if_neg (fun q => by rw [h2] at q; cases q.2)]
    · show _ = _; rw [if_neg (fun q => by rw [h] at q; cases q.1)]
  refine U.run_call _ (m36 a now) (U.run_ite (fun h => U.run_ret ?_) (fun h => U.run_ite (fun h2 => U.run_jump ?_) (fun h2 => U.run_jump ?_)))
  · show _ = _; unfold xp; rw [if_pos h]
  · exact hs0 _ _ _ h (by rw [h2]; rfl)
  · exact hs0 _ _ _ h (by rw [h2]; rfl)
/-! ### Starting -/
def stt (a : GAct) (now t : Int) : GAct × Int :=
  if (!clk now || decide (t < 1)) = true then (az, 2) else if (a.State != 1) = true then (az, 16) else if decide (now < a.Due) = true then (az, 16)
  else (GAct.mk a.Seq a.Event a.Name a.Data a.Opts 2 a.Attempt a.Scheduled a.Due now 0 t a.Cancel a.Details a.Failure, 0)
theorem m96 (a : GAct) (ha : aok a) (now t : Int) : Try.m96.R (a, now, t) (stt a now t) := by
  have hs0 : ∀ z b, b = (!clk now || decide (t < 1)) → Ev Try.c96 (.s0 now t a z b) (stt a now t) := by
    intro z b hb
    unfold stt
    rw [← hb]
    refine Ev.intro (U.run_ite (fun h => U.run_ret ?_) (fun h => U.run_ite (fun h2 => U.run_ret ?_) (fun h2 => U.run_ite (fun h3 => U.run_ret ?_) (fun h3 => U.run_call _ (m161 a ha) (U.run_ret ?_)))))
    · show _ = _; rw [if_pos h]; rfl
    · show _ = _; rw [if_neg (by rw [h]; decide), if_pos h2]; rfl
    · show _ = _; rw [if_neg (by rw [h]; decide), if_neg (by rw [h2]; decide), if_pos h3]; rfl
    · show _ = _; rw [if_neg (by rw [h]; decide), if_neg (by rw [h2]; decide), if_neg (by rw [h3]; decide)]
  refine U.run_call _ (m165 now) (U.run_ite (fun h => U.run_jump ?_) (fun h => U.run_jump ?_))
  · exact hs0 _ _ (by rw [h]; rfl)
  · exact hs0 _ _ (by rw [h]; rfl)
def chk (a : GAct) (t : Int) : Int := if (a.State == 2) = true ∧ (a.Token == t) = true then 0 else 24
theorem m97 (a : GAct) (t : Int) : Try.m97.R (a, t) (chk a t) := by
  refine U.run_ite (fun h => U.run_ite (fun h2 => U.run_ret ?_) (fun h2 => U.run_ret ?_)) (fun h => U.run_ret ?_)
  all_goals show _ = chk a t
  all_goals unfold chk
  · rw [if_pos ⟨h, h2⟩]
  · rw [if_neg (fun q => by rw [h2] at q; cases q.2)]
  · rw [if_neg (fun q => by rw [h] at q; cases q.1)]
/-! ### The same -/
theorem m228 (o : GPolicy) (ho : o.ok) : Try.m228.R (o, o) true := by
  refine U.run_f (by simp [strEq_iff]) (U.run_f (by simp) (U.run_f (by simp) (U.run_f (by simp) (U.run_f (by simp) (U.run_f (by simp) (U.run_f (by simp) (U.run_f (by simp) (U.run_f (by simp) (U.run_len (U.run_len (U.run_f (by simp) (U.run_jump ?_))))))))))))
  show Ev _ _ _
  refine (U.ev_for o.Fatal (fun i (_ : Unit) => Try.J228.s0 o o i) (fun _ _ => True) (fun _ _ => true) (fat_len ho) ?_ ?_ () trivial :)
  · intro _ _; exact U.run_len (U.run_f U.dec_f (U.run_ret rfl))
  · intro i hi _ _ hw ht x r hx hm y hy ih
    refine U.run_len (U.run_t ht (U.run_elemX hi hx (U.run_elemX hi hx (U.run_f (by simp [strEq_iff]) (U.run_jump ?_)))))
    show Ev _ _ _
    rw [hw]; exact ih () trivial hy.symm
theorem m164 (o : GPolicy) (ho : o.ok) : Try.m164.R (o, o) true := by
  have e : Try.m207.R (GEvent.mk 0 0 0 0 0 0 0 (⟨#[]⟩ : ByteArray) (⟨#[]⟩ : ByteArray) vz o, GEvent.mk 0 0 0 0 0 0 0 (⟨#[]⟩ : ByteArray) (⟨#[]⟩ : ByteArray) vz o) true :=
    U.run_t rfl (U.run_t rfl (U.run_t rfl (U.run_t rfl (U.run_t rfl (U.run_t rfl (U.run_t rfl (U.run_t (by simp [strEq_iff]) (U.run_t (by simp [strEq_iff]) (U.run_call _ (m56 vz vz_ok) (U.run_t rfl (U.run_call _ (m228 o ho) (U.run_ret rfl))))))))))))
  exact U.run_call _ e (U.run_ret rfl)
theorem m94 (a : GAct) (ha : aok a) : Try.m94.R (a, a) true := by
  obtain ⟨hd, ho, he⟩ := ha
  refine U.run_t (by simp) (U.run_t (by simp) (U.run_t (by simp [strEq_iff]) (U.run_call _ (m56 _ hd) (U.run_t rfl (U.run_call _ (m164 _ ho) (U.run_t rfl (U.run_t (by simp) (U.run_t (by simp) (U.run_t (by simp) (U.run_t (by simp) (U.run_t (by simp) (U.run_t (by simp) (U.run_t (by simp) (U.run_t (by simp) (U.run_call _ (m56 _ he) (U.run_t rfl (U.run_ret ?_)))))))))))))))))
  show strEq _ _ = true
  simp [strEq_iff]
theorem m95 (o : GAOutcome) : Try.m95.R (o, o) true := by
  refine U.run_t (by simp) (U.run_t (by simp) (U.run_t (by simp) (U.run_ret ?_)))
  show strEq _ _ = true
  simp [strEq_iff]
end AC
end Go.Proofs
