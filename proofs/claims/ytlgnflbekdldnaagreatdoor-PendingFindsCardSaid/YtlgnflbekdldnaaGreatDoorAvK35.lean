/- Texts AvZW. -/
import Derived.Shelf.RegionOpenPlain
import Derived.WalkKit
import Derived.Deep.RegionLaw
import Derived.Deep.LoopGhost
import Derived.Deep.Draws
import Derived.Lib.Walk
import Derived.Test.YtlgnflbekdldnaaGreatDoorAvK34
set_option linter.unusedVariables false
set_option linter.unusedSimpArgs false
set_option linter.unusedSectionVars false
noncomputable section
namespace Go.Proofs
open Go Go.RowKit Go.AV Go.Lib
namespace ZW
structure After (w w' : World) (b : Nat) : Prop where
  below : Below w.heap.size w w'
  size : w'.heap.size = w.heap.size + 1
  cell : ∀ k, k < 8 → w'.cell? ⟨w.heap.size, k, none⟩ = some (.pointer (some ⟨b, k + 1, none⟩))
theorem after_alloc (w : World) (b : Nat) (vals : Array Value) (h : ∀ k, k < 8 → vals[k]? = some (.pointer (some ⟨b, k + 1, none⟩))) : After w (w.alloc (.cells vals 179 (0, 0))).drew b where
  below := ⟨rfl, rfl, rfl, by show _ ≤ (w.heap.push _).size; rw [Array.size_push]; omega, fun k hk => by show (w.heap.push _)[k]? = _; rw [Array.getElem?_push_lt hk, Array.getElem?_eq_getElem hk]⟩
  size := by show (w.heap.push _).size = _; rw [Array.size_push]
  cell := fun k hk => by
    have e : (w.alloc (.cells vals 179 (0, 0))).drew.heap[w.heap.size]? = some (.cells vals 179 (0, 0)) := by show (w.heap.push _)[w.heap.size]? = _; rw [Array.getElem?_push_size]
    simp only [World.cell?, e]
    exact h k hk
def ptrs (b : Nat) : Array Value := #[.pointer (some ⟨b, 1, none⟩), .pointer (some ⟨b, 2, none⟩), .pointer (some ⟨b, 3, none⟩), .pointer (some ⟨b, 4, none⟩), .pointer (some ⟨b, 5, none⟩), .pointer (some ⟨b, 6, none⟩), .pointer (some ⟨b, 7, none⟩), .pointer (some ⟨b, 8, none⟩)]
theorem ptrs_at (b : Nat) : ∀ k, k < 8 → (ptrs b)[k]? = some (.pointer (some ⟨b, k + 1, none⟩))
  | 0, _ => rfl
  | 1, _ => rfl
  | 2, _ => rfl
  | 3, _ => rfl
  | 4, _ => rfl
  | 5, _ => rfl
  | 6, _ => rfl
  | 7, _ => rfl
set_option maxRecDepth 100000 in
theorem numbers (w : World) (b : Nat) (cur : Array Value) (hb : w.heap[b]? = some (.cells cur 41 (0, 0))) (hc : cur.size = 10) :
    Calls Tryz.prog 199 #[.pointer (some ⟨b, 0, none⟩)] w fun e w' => e = .returned (.slice (some ⟨w.heap.size, 0, none⟩) 8 8) ∧ After w w' b := by
  have mixed : Tryz.prog.follows Departure.mixedOrders = true := by kernel_rfl
  go_enter Tryz.func199, Tryz.ntmps199
  go_wp2
  go_region_o
  go_wp2
  go_ret
  exact ⟨rfl, after_alloc w b (ptrs b) (ptrs_at b)⟩
theorem heap2 (w : World) (v0 v1 : Array Value) : ((w.alloc (.cells v0 41 (0, 0))).alloc (.cells v1 41 (0, 0))).heap = (w.heap.push (.cells v0 41 (0, 0))).push (.cells v1 41 (0, 0)) := rfl
def ints (p : GPolicy) : List Int := [p.ToStart, p.ToClose, p.Total, p.Beat, p.First, p.Coef, p.Most, p.Attempts]
theorem pcells {w : World} {ok : Nat → Prop} {p : GPolicy} {v : Array Value} (h : RepCs w ok (GPolicy.cs p) v.toList) :
    v.size = 10 ∧ v[0]? = some (.string p.Queue) ∧ (∀ k, k < 8 → v[k + 1]? = some (.int .i64 ((ints p).getD k 0))) ∧ ∃ u, v[9]? = some u ∧ RepC w ok (.sl (p.Fatal.map strC)) u := by
  have hs : v.size = 10 := h.1
  have hg : ∀ m, m < 10 → v[m]? = some (v.toList.getD m undef) := by
    intro m hm
    rw [List.getD_eq_getElem?_getD, Array.getElem?_toList, Array.getElem?_eq_getElem (by omega)]; rfl
  have hi : ∀ m (x : Int), RepC w ok (.int .i64 x) (v.toList.getD m undef) → v.toList.getD m undef = .int .i64 x := by
    intro m x h; generalize v.toList.getD m undef = u at h; cases h; rfl
  refine ⟨hs, ?_, fun k hk => ?_, ?_⟩
  · rw [hg 0 (by decide)]
    have h0 := h.2 0 (by show 0 < 10; decide)
    generalize v.toList.getD 0 undef = u at h0
    have h0 : RepC w ok (.str p.Queue) u := h0
    cases h0; rfl
  · rw [hg (k + 1) (by omega)]
    match k, hk with
    | 0, _ => rw [hi 1 _ (h.2 1 (by show 1 < 10; decide))]; rfl
    | 1, _ => rw [hi 2 _ (h.2 2 (by show 2 < 10; decide))]; rfl
    | 2, _ => rw [hi 3 _ (h.2 3 (by show 3 < 10; decide))]; rfl
    | 3, _ => rw [hi 4 _ (h.2 4 (by show 4 < 10; decide))]; rfl
    | 4, _ => rw [hi 5 _ (h.2 5 (by show 5 < 10; decide))]; rfl
    | 5, _ => rw [hi 6 _ (h.2 6 (by show 6 < 10; decide))]; rfl
    | 6, _ => rw [hi 7 _ (h.2 7 (by show 7 < 10; decide))]; rfl
    | 7, _ => rw [hi 8 _ (h.2 8 (by show 8 < 10; decide))]; rfl
  · exact ⟨_, hg 9 (by decide), h.2 9 (by show 9 < 10; decide)⟩
theorem inv_below {P : Program} {w w' : World} {ok : Nat → Prop} (h : Inv P w ok) {n : Nat} (hn : n = w.heap.size) (hb : Below n w w') : Inv P w' ok :=
  h.keep (hn ▸ hb.size) (fun _ _ h => h) (fun b hlt _ => hb.block b (hn ▸ hlt))
section
attribute [local irreducible] Runs
theorem strEq_i (a b : ByteArray) : strEq a b = true ↔ a = b := by rw [strEq_iff, decide_eq_true_eq]
theorem m90 (a b : List ByteArray) (ha : a.length ≤ 4611686018427387904) : Tryz.m90.R (a, b) (decide (a = b)) := by
  rw [← U.zip_dec strEq strEq_i]
  refine U.run_len (U.run_len ?_)
  show Runs (.ite _ ((a.length : Int) != (b.length : Int)) _ _) _
  rw [U.eq_nn]
  refine U.and_f fun h => U.run_len (U.ke_jump ?_)
  have hl := of_decide_eq_true h
  rw [← Bool.and_true ((a.zip b).all _)]
  refine U.ev_zip a b hl (fun i => Tryz.J90.s0 a b a.length i) strEq true ha (U.run_f U.dec_f (U.ke_ret rfl)) ?_
  intro i h1 h2 ht hw x y hx hy _ _ r ih
  exact U.run_t ht (U.run_elemX h1 hx (U.run_elemX h2 hy (U.and_f fun hp => U.ke_jump (by rw [hw]; exact ih hp))))
end
theorem eq90 (W : World) (ok : Nat → Prop) (a b : List ByteArray) (u0 u1 : Value) (h0 : RepC W ok (.sl (a.map strC)) u0) (h1 : RepC W ok (.sl (b.map strC)) u1) (hI : Inv Tryz.prog W ok) (hf : a.length ≤ 4611686018427387904) :
    Calls Tryz.prog 90 #[u0, u1] W fun e w' => e = .returned (.bool (decide (a = b))) ∧ Below W.heap.size W w' := by
  refine ((Tryz.m90.ok (a, b) _ (m90 a b hf)).2 W ok [u0, u1] [] ⟨[], [], rfl, ⟨h0, rfl⟩, [], [], rfl, ⟨h1, rfl⟩, rfl⟩ (by simp) (fun b ⟨g, hg, _⟩ => by simp at hg) hI).mono ?_
  rintro e w' ⟨us, cs, ocs, rfl, hb, hfit, _, hr⟩
  obtain ⟨v, rfl, rfl⟩ : ∃ v, us = [v] ∧ cs = [v] := by
    cases us with
    | nil => exact hfit.elim
    | cons v r =>
      obtain ⟨c1, c2, hv, hc2, he⟩ := hfit
      cases r with
      | nil =>
        have hv : c1 = [v] := hv
        have hc2 : c2 = [] := hc2
        exact ⟨v, rfl, by rw [he, hv, hc2]; rfl⟩
      | cons _ _ => exact hc2.elim
  have hv := hr.2.1 0 (by show 0 < 1; decide)
  have hv : RepC w' _ (.bool (decide (a = b))) v := hv
  cases hv
  exact ⟨rfl, hb.os, hb.tape, hb.output, hb.size, fun k hk => hb.block k hk (fun ⟨g, hg, _⟩ => by simp at hg)⟩
theorem cell_of {w w' : World} {b : Nat} (h : w'.heap[b]? = w.heap[b]?) (o : Nat) : w'.cell? ⟨b, o, none⟩ = w.cell? ⟨b, o, none⟩ := by simp only [World.cell?, h]
theorem cell_at {w : World} {b : Nat} {v : Array Value} {T : TypeId} {fz : Nat × Nat} (h : w.heap[b]? = some (.cells v T fz)) (o : Nat) : w.cell? ⟨b, o, none⟩ = v[o]? := by simp only [World.cell?, h]; rfl
theorem ints_eq {p q : GPolicy} (h : ∀ j, j < 8 → (ints p).getD j 0 = (ints q).getD j 0) : decide (p = q) = (strEq p.Queue q.Queue && decide (p.Fatal = q.Fatal)) := by
  have e0 := h 0 (by decide); have e1 := h 1 (by decide); have e2 := h 2 (by decide); have e3 := h 3 (by decide); have e4 := h 4 (by decide); have e5 := h 5 (by decide); have e6 := h 6 (by decide); have e7 := h 7 (by decide)
  cases p with | mk a0 a1 a2 a3 a4 a5 a6 a7 a8 a9 =>
  cases q with | mk b0 b1 b2 b3 b4 b5 b6 b7 b8 b9 =>
  simp only [ints, List.getD_cons_zero, List.getD_cons_succ] at e0 e1 e2 e3 e4 e5 e6 e7
  subst e0 e1 e2 e3 e4 e5 e6 e7
  rw [strEq_iff, Bool.eq_iff_iff]
  simp only [decide_eq_true_eq, Bool.and_eq_true, GPolicy.mk.injEq, true_and]
theorem ints_ne {p q : GPolicy} {k : Nat} (h : ¬ (ints p).getD k 0 = (ints q).getD k 0) : decide (p = q) = false := decide_eq_false (fun e => h (by rw [e]))
set_option maxRecDepth 100000 in
theorem same (w : World) (ok : Nat → Prop) (p q : GPolicy) (v0 v1 : Array Value) (h0 : RepCs w ok (GPolicy.cs p) v0.toList) (h1 : RepCs w ok (GPolicy.cs q) v1.toList) (hI : Inv Tryz.prog w ok) (hf : p.Fatal.length ≤ 4611686018427387904) :
    Calls Tryz.prog 143 #[.agg v0, .agg v1] w fun e w' => e = .returned (.bool (decide (p = q))) ∧ Below w.heap.size w w' := by
  have mixed : Tryz.prog.follows Departure.mixedOrders = true := by kernel_rfl
  obtain ⟨s0, p0, pi, u0, pu, r0⟩ := pcells h0
  obtain ⟨s1, q0, qi, u1, qu, r1⟩ := pcells h1
  obtain ⟨n, hn⟩ : ∃ n, n = w.heap.size := ⟨_, rfl⟩
  obtain ⟨W2, hW2⟩ : ∃ W2, W2 = (w.alloc (.cells v0 41 (0, 0))).alloc (.cells v1 41 (0, 0)) := ⟨_, rfl⟩
  have z2 : W2.heap.size = n + 2 := by rw [hW2, heap2, Array.size_push, Array.size_push, hn]
  have b0 : W2.heap[n]? = some (.cells v0 41 (0, 0)) := by
    rw [hW2, heap2, hn, Array.getElem?_push, if_neg (by rw [Array.size_push]; omega), Array.getElem?_push_size]
  have b1 : W2.heap[n + 1]? = some (.cells v1 41 (0, 0)) := by
    have e : n + 1 = (w.heap.push (.cells v0 41 (0, 0))).size := by rw [Array.size_push, hn]
    rw [hW2, heap2, e, Array.getElem?_push_size]
  have bel : Below n w W2 := ⟨by rw [hW2]; rfl, by rw [hW2]; rfl, by rw [hW2]; rfl, by omega, fun k hk => by
    rw [hW2, heap2, Array.getElem?_push_lt (by rw [Array.size_push]; omega), Array.getElem_push_lt (by omega), Array.getElem?_eq_getElem (by omega)]⟩
  have hx : Hid (∀ (w' : World) (k : Nat), After W2 w' n → w'.heap[n + 1]? = some (.cells v1 41 (0, 0))) := fun w' k hA => by rw [hA.below.block (n + 1) (by omega)]; exact b1
  have hy : Hid (W2 = (w.alloc (.cells v0 41 (0, 0))).alloc (.cells v1 41 (0, 0))) := hW2
  have c0 : Hid (W2.heap[n]? = some (.cells v0 41 (0, 0))) := b0
  clear hW2
  subst hn
  go_enter Tryz.func143, Tryz.ntmps143
  go_wp2_with (first | (go_at_call 199; rw [← hy.out]; refine (numbers W2 w.heap.size v0 c0.out s0).mono ?_; rintro e W3 ⟨rfl, hA⟩) | (go_at_call 199; refine (numbers _ (w.heap.size + 1) v1 (hx.out _ 0 (by assumption)) s1).mono ?_; rintro e W4 ⟨rfl, hB⟩))
  have z3 : W3.heap.size = w.heap.size + 3 := by rw [hA.size, z2]
  have z4 : W4.heap.size = w.heap.size + 4 := by rw [hB.size, z3]
  have k0 : W4.heap[w.heap.size]? = some (.cells v0 41 (0, 0)) := by rw [hB.below.block _ (by omega), hA.below.block _ (by omega)]; exact b0
  have k1 : W4.heap[w.heap.size + 1]? = some (.cells v1 41 (0, 0)) := by rw [hB.below.block _ (by omega), hA.below.block _ (by omega)]; exact b1
  have x1 : Aside (∀ k, k < 8 → W4.cell? ⟨w.heap.size + 2, k, none⟩ = some (.pointer (some ⟨w.heap.size, k + 1, none⟩))) := fun k hk => by
    rw [cell_of (hB.below.block _ (by omega)), ← z2]; exact hA.cell k hk
  have x2 : Aside (∀ k, k < 8 → W4.cell? ⟨w.heap.size + 3, k, none⟩ = some (.pointer (some ⟨w.heap.size + 1, k + 1, none⟩))) := fun k hk => by rw [← z3]; exact hB.cell k hk
  have y1 : Aside (∀ k, k < 8 → W4.cell? ⟨w.heap.size, k + 1, none⟩ = some (.int .i64 ((ints p).getD k 0))) := fun k hk => by rw [cell_at k0]; exact pi k hk
  have y2 : Aside (∀ k, k < 8 → W4.cell? ⟨w.heap.size + 1, k + 1, none⟩ = some (.int .i64 ((ints q).getD k 0))) := fun k hk => by rw [cell_at k1]; exact qi k hk
  have f1 : W4.cell? ⟨w.heap.size, 0, none⟩ = some (.string p.Queue) := by rw [cell_at k0]; exact p0
  have f2 : W4.cell? ⟨w.heap.size + 1, 0, none⟩ = some (.string q.Queue) := by rw [cell_at k1]; exact q0
  have f3 : W4.cell? ⟨w.heap.size, 9, none⟩ = some u0 := by rw [cell_at k0]; exact pu
  have f4 : W4.cell? ⟨w.heap.size + 1, 9, none⟩ = some u1 := by rw [cell_at k1]; exact qu
  have bel4 : Aside (Below w.heap.size w W4) := ⟨by rw [hB.below.os, hA.below.os, bel.os], by rw [hB.below.tape, hA.below.tape, bel.tape], by rw [hB.below.output, hA.below.output, bel.output], by omega, fun k hk => by
    rw [hB.below.block k (by omega), hA.below.block k (by omega), bel.block k hk]⟩
  have call : Aside (∀ m, Calls Tryz.prog 90 #[u0, u1] (W4.drewN m) fun e w' => e = .returned (.bool (decide (p.Fatal = q.Fatal))) ∧ Below w.heap.size w w') := fun m => by
    have hb : Below w.heap.size w (W4.drewN m) := ⟨bel4.out.os, bel4.out.tape, bel4.out.output, bel4.out.size, bel4.out.block⟩
    refine (eq90 (W4.drewN m) ok _ _ u0 u1 (r0.mono (fun _ _ h => h) hb.size (fun b hlt _ => hb.block b hlt)) (r1.mono (fun _ _ h => h) hb.size (fun b hlt _ => hb.block b hlt)) (inv_below hI rfl hb) hf).mono ?_
    rintro e w' ⟨rfl, h⟩
    exact ⟨rfl, h.os.trans hb.os, h.tape.trans hb.tape, h.output.trans hb.output, Nat.le_trans hb.size h.size, fun k hk => (h.block k (Nat.lt_of_lt_of_le hk hb.size)).trans (hb.block k hk)⟩
  have done : Aside ((∀ j, j < 8 → (ints p).getD j 0 = (ints q).getD j 0) → decide (p = q) = (strEq p.Queue q.Queue && decide (p.Fatal = q.Fatal))) := ints_eq
  have nope : Aside (∀ k, ¬ (ints p).getD k 0 = (ints q).getD k 0 → decide (p = q) = false) := fun k h => ints_ne h
  clear k0 k1 b0 b1 bel hx hy c0 hA hB z2 pi qi p0 q0 pu qu r0 r1 h0 h1 hI hf s0 s1
  go_loopg [12] 8 (fun g s12 wr => ∃ k m : Nat, k ≤ 8 ∧ 8 - k ≤ g ∧ s12 = .int .i64 k ∧ wr = W4.drewN m ∧ Aside (∀ j, j < k → (ints p).getD j 0 = (ints q).getD j 0))
  case atStart => exact ⟨0, 0, Nat.zero_le _, by omega, rfl, rfl, fun j hj => absurd hj (Nat.not_lt_zero _)⟩
  case round =>
    obtain ⟨k, m, hk, hg, rfl, rfl, A⟩ := hrel
    by_cases hlt : k < 8
    · have g1 := x1.out k hlt
      have g2 := x2.out k hlt
      have g3 := y1.out k hlt
      have g4 := y2.out k hlt
      generalize hxk : (ints p).getD k 0 = x at g3
      generalize hyk : (ints q).getD k 0 = y at g4
      have B : Aside ((ints p).getD k 0 = x ∧ (ints q).getD k 0 = y) := ⟨hxk, hyk⟩
      clear hxk hyk
      by_cases hxy : x = y
      · subst hxy
        go_wp2_with fail
        go_region_o
        go_wp2
        go_roundg (8 - (k + 1))
        case measure => omega
        case rel =>
          refine ⟨k + 1, m + 1, by omega, by omega, by go_num, rfl, (show Aside _ from fun j hj => ?_)⟩
          by_cases e : j = k
          · subst e; rw [B.out.1, B.out.2]
          · exact A.out j (by omega)
      · go_wp2_with fail
        go_region_o
        go_wp2
        go_ret
        refine ⟨?_, bel4.out.os, bel4.out.tape, bel4.out.output, bel4.out.size, bel4.out.block⟩
        rw [nope.out k (by rw [B.out.1, B.out.2]; exact hxy)]; rfl
    · have : k = 8 := by omega
      subst this
      have hd := done.out A.out
      cases hs : (p.Queue.toList == q.Queue.toList)
      · have hd : decide (p = q) = false := by rw [hd]; unfold strEq; rw [hs]; rfl
        go_wp2
        go_ret
        exact ⟨by rw [hd]; rfl, bel4.out.os, bel4.out.tape, bel4.out.output, bel4.out.size, bel4.out.block⟩
      · have hd : decide (p = q) = decide (p.Fatal = q.Fatal) := by rw [hd]; unfold strEq; rw [hs]; rfl
        go_wp2_with (go_at_call 90; refine (call.out m).mono ?_; rintro e W5 ⟨rfl, hW5⟩)
        go_ret
        exact ⟨by rw [hd]; rfl, hW5⟩
theorem repRes_flat {fr ok : Nat → Prop} {w : World} {res : List RV} {us cs : List Value} (hf : fitsAll res us cs) (hl : cs.length = (res.flatMap RV.cells).length)
    (hc : ∀ m, m < (res.flatMap RV.cells).length → ∃ x, (res.flatMap RV.cells).getD m (.c .junk) = .c x ∧ ∀ ok', RepC w ok' x (cs.getD m undef)) : RepRes fr w ok res (packRes us) := by
  refine ⟨us, cs, rfl, hf, hl, fun m hm => ?_, fun i j b hi hj h1 h2 => ?_⟩
  · obtain ⟨x, e, h⟩ := hc m hm
    rw [e]; exact h _
  · obtain ⟨x, e, _⟩ := hc i hi
    rw [e] at h1; cases h1
theorem spec (p q : GPolicy) (hf : p.Fatal.length ≤ 4611686018427387904) : AV.Spec Tryz.prog 143 [.agg (GPolicy.cs p), .agg (GPolicy.cs q)] [.one (.c (.bool (decide (p = q))))] := by
  refine ⟨⟨_, Tryz.func143, by kernel_rfl, by kernel_rfl⟩, fun w ok vs hr hI => ?_⟩
  obtain ⟨v0, v1, rfl, h0, h1⟩ : ∃ v0 v1 : Array Value, vs = [.agg v0, .agg v1] ∧ RepCs w ok (GPolicy.cs p) v0.toList ∧ RepCs w ok (GPolicy.cs q) v1.toList := by
    match vs, hr.1, hr.2 0 (by simp), hr.2 1 (by simp) with
    | [a, b], _, ⟨v0, h0, r0⟩, ⟨v1, h1, r1⟩ =>
      have h0 : a = .agg v0 := h0
      have h1 : b = .agg v1 := h1
      exact ⟨v0, v1, by rw [h0, h1], r0, r1⟩
  refine (same w ok p q v0 v1 h0 h1 hI hf).mono ?_
  rintro e w' ⟨rfl, hb⟩
  refine ⟨_, rfl, hb, repRes_flat (us := [.bool (decide (p = q))]) (cs := [.bool (decide (p = q))]) ⟨[_], [], rfl, rfl, rfl⟩ rfl fun m hm => ?_⟩
  match m, hm with
  | 0, _ => exact ⟨_, rfl, fun _ => .bool _⟩
end ZW
def Tryz.m143 : Mir Tryz.prog 143 (GPolicy × GPolicy) (Bool) where
  fs := [.agg (List.replicate 10 none), .agg (List.replicate 10 none)]
  ga := fun x => [.val (.agg ((GPolicy.cs x.1).map R.c)), .val (.agg ((GPolicy.cs x.2).map R.c))]
  caps := fun x => []
  res := fun y => [.one (.c (.bool y))]
  outs := fun y => []
  R := fun x y => x.1.Fatal.length ≤ 4611686018427387904 ∧ y = decide (x.1 = x.2)
  ok := fun x y h => by
    obtain ⟨p, q⟩ := x
    obtain ⟨h1, rfl⟩ := h
    exact (ZW.spec p q h1).g
  flat := true
  hflat := fun _ _ => flatE rfl
end Go.Proofs
end
