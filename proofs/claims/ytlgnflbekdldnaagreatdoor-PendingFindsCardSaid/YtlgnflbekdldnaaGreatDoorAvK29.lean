/- Texts AvE7. -/
import Derived.LoopN
import Derived.Test.YtlgnflbekdldnaaGreatDoorAvK28
set_option linter.unusedVariables false
set_option linter.unusedSimpArgs false
set_option linter.unusedSectionVars false
noncomputable section
namespace Go.AV
open Go.RowKit
section
variable {B : Nat → Prop} {nt : Nat} {w0 : Base} {w : World} {s s' : AS} {a : Act} {gv : GV} {P : Program} {o : Oper} {J Y : Type} [InvC P B w0]
theorem repGA_of_DVs {ok : Nat → Prop} : ∀ (ds : List DV) (vs : List Value), RepDVs w ok ds vs → RepGA w ok (ds.map DV.g) vs [] ∧ mutPtrs (ds.map DV.g) vs = [] := by
  have hc : ∀ (cs : List C) (us : List Value), RepCs w ok cs us → RepGC w ok (cs.map .c) us [] := by
    intro cs
    induction cs with
    | nil => intro us h; have : us = [] := List.eq_nil_of_length_eq_zero h.1; subst this; exact rfl
    | cons c cs ih =>
      intro us h
      cases us with
      | nil => have := h.1; simp at this
      | cons u us => exact ⟨h.2 0 (by simp), ih us ⟨by simpa using h.1, fun m hm => by simpa using h.2 (m + 1) (by simpa using hm)⟩⟩
  intro ds
  induction ds with
  | nil => intro vs h; have : vs = [] := List.eq_nil_of_length_eq_zero h.1; subst this; exact ⟨rfl, rfl⟩
  | cons d ds ih =>
    intro vs h
    cases vs with
    | nil => have := h.1; simp at this
    | cons v vs =>
      obtain ⟨q1, q2⟩ := ih vs ⟨by simpa using h.1, fun m hm => by simpa using h.2 (m + 1) (by simpa using hm)⟩
      have h0 : RepDV w ok d v := h.2 0 (by simp)
      cases d with
      | one c => exact ⟨⟨[], [], rfl, ⟨h0, rfl⟩, q1⟩, q2⟩
      | agg cs =>
        obtain ⟨us, rfl, h0⟩ := h0
        exact ⟨⟨us, [], [], rfl, rfl, hc cs us.toList h0, q1⟩, q2⟩
theorem SpecG.toSpec {f : FuncId} {ds : List DV} {res : List RV} {outs : List (List R)} (h : SpecG P f (ds.map DV.g) res outs) : Spec P f ds res := by
  refine ⟨h.1, fun w ok vs hr hI => ?_⟩
  obtain ⟨q1, q2⟩ := repGA_of_DVs ds vs hr
  refine (h.2 w ok vs [] q1 (by simp) (fun b hb => by obtain ⟨g, hg, _⟩ := hb; simp at hg) hI).mono ?_
  rintro e w' ⟨us, cs, ocs, rfl, hb, hf, ho, hrs⟩
  rw [q2] at ho hrs
  refine ⟨_, rfl, ⟨hb.os, hb.tape, hb.output, hb.size, fun k hk => hb.block k hk (fun ⟨g, hg, _⟩ => by simp at hg)⟩, us, cs, rfl, hf, ?_⟩
  cases outs with
  | cons => cases ocs <;> exact ho.elim
  | nil =>
    cases ocs with
    | cons => exact ho.elim
    | nil =>
      simp only [List.flatten_nil, List.append_nil] at hrs
      exact hrs.fr fun b => ⟨fun h => h.1.elim id (fun ⟨g, hg, _⟩ => by simp at hg), fun h => ⟨.inl h, fun p hp => by simp at hp⟩⟩
theorem memP_iff (p : Nat × Nat) (l : List (Nat × Nat)) : memP p l = true ↔ p ∈ l := by
  induction l with
  | nil => simp [memP]
  | cons q l ih =>
    simp only [memP, Bool.or_eq_true, Bool.and_eq_true, ih, List.mem_cons, nbeq, decide_eq_true_eq]
    constructor
    · rintro (⟨h1, h2⟩ | h)
      · exact .inl (Prod.ext h1 h2)
      · exact .inr h
    · rintro (rfl | h)
      · exact .inl ⟨rfl, rfl⟩
      · exact .inr h
theorem nodupP_ok : ∀ {l : List (Nat × Nat)}, nodupP l = true → l.Nodup
  | [], _ => List.nodup_nil
  | p :: l, h => by
    simp only [nodupP, Bool.and_eq_true, Bool.not_eq_true'] at h
    exact List.nodup_cons.2 ⟨fun hm => by rw [(memP_iff p l).2 hm] at h; simp at h, nodupP_ok h.2⟩
theorem disjP_ok : ∀ {l g : List (Nat × Nat)}, disjP l g = true → ∀ p ∈ l, p ∉ g
  | [], _, _, p, hp => by simp at hp
  | q :: l, g, h, p, hp => by
    simp only [disjP, Bool.and_eq_true, Bool.not_eq_true'] at h
    rcases List.mem_cons.1 hp with rfl | hp
    · intro hm; rw [(memP_iff p g).2 hm] at h; simp at h
    · exact disjP_ok h.2 p hp
theorem gd_elim {b : Bool} {p : Prop} (h : gd b p) : b = true ∧ p := gd_iff.1 h
theorem enc_at {α : Type} (E : Enc α) (xs : List α) (n : Nat) (h : n < xs.length) : (E.L xs).getD n [] = E.e xs[n] := by
  rw [E.hL, getD_lt _ _ _ (by simpa using h), List.getElem_map]
theorem enc_len {α : Type} (E : Enc α) (xs : List α) : (E.L xs).length = xs.length := by rw [E.hL, List.length_map]
theorem enc_sz {α : Type} (E : Enc α) (xs : List α) : ∀ y ∈ E.L xs, y.length = E.sz := by
  intro y hy
  rw [E.hL] at hy
  obtain ⟨x, _, rfl⟩ := List.mem_map.1 hy
  exact E.hs x
theorem mputV_L {α : Type} (E : Enc α) (ks : List ByteArray) (vs : List α) (key : ByteArray) (x : α) : mputV ks (E.L vs) key (E.e x) = E.L (mputT ks vs key x) := by
  unfold mputV mputT
  cases mfind key ks with
  | none => simp only [E.hL, List.map_append, List.map_cons, List.map_nil]
  | some i => simp only [E.hL, List.map_set]
theorem mget_L {α : Type} (E : Enc α) (ks : List ByteArray) (vs : List α) (z : α) (key : ByteArray) (h : vs.length = ks.length) : mget ks (E.L vs) (E.e z) key = E.e (mgetT ks vs z key) := by
  unfold mget mgetT
  cases e : mfind key ks with
  | none => rfl
  | some i =>
    have hi := (mfind_some e).1
    have hi' : i < vs.length := by omega
    simp only
    rw [enc_at E vs i hi', getD_lt vs z i hi']
theorem aggB_ok {s : AS} {y : AV} {cs : List A} {agg : Bool} (h : aggB y agg = true) (hc : s.cellsO y = some cs) : y = mkAV agg cs ∧ (agg = false → cs.length = 1) := by
  cases y with
  | one x =>
    simp only [aggB, Bool.not_eq_true'] at h
    subst h
    simp only [AS.cellsO] at hc
    split at hc
    · cases hc; exact ⟨rfl, fun _ => rfl⟩
    · cases hc
  | agg asx =>
    simp only [aggB] at h
    subst h
    simp only [AS.cellsO] at hc
    split at hc
    · cases hc; exact ⟨rfl, fun h => by cases h⟩
    · cases hc
  | _ => cases h
theorem certOut_ok {c : Cert P J Y} {K : Cert P J Y → Out → Prop} {KK : J ⊕ Y → Prop} (h : certOut P o s K c) (hr : Runs c KK) : aOut P o s (fun out => ∃ c', K c' out ∧ Runs c' KK) := by
  cases c with
  | elem E xs i k =>
    simp only [certOut] at h
    obtain ⟨h0, h1, hr⟩ := hr
    split at h
    · rename_i t x ix e
      split at h
      · rename_i ti L kk i' e1 e2 e3
        split at h
        · rename_i el e4
          split at h
          · rename_i te e5
            obtain ⟨g1, rfl, rfl, g4⟩ := gd_elim h
            unfold aOut
            simp only [e, e1, e2, e3, e4, e5]
            rw [enc_len, enc_at E xs _ h1]
            exact ⟨h0, by omega, by rw [E.hs, Nat.eq_of_beq_eq_true g1], _, g4 _, hr⟩
          · exact h.elim
        · exact h.elim
      · exact h.elim
    · exact h.elim
  | idx E xs i k =>
    simp only [certOut] at h
    obtain ⟨h0, h1, hr⟩ := hr
    split at h
    · rename_i t x ix e
      split at h
      · rename_i ti hh v kk i' e1 e2 e3
        split at h
        · rename_i el E' sz L e4 e5
          split at h
          · rename_i te e6
            obtain ⟨g1, rfl, rfl, g4⟩ := gd_elim h
            simp only [Bool.and_eq_true] at g1
            unfold aOut
            simp only [e, e1, e2, e3, e4, e5, e6]
            rw [enc_len]
            exact ⟨Nat.eq_of_beq_eq_true g1.1, h0, by omega, _, g4, hr⟩
          · exact h.elim
        · exact h.elim
      · exact h.elim
    · exact h.elim
  | eget E xs n k =>
    simp only [certOut] at h
    obtain ⟨h1, hr⟩ := hr
    split at h
    · rename_i t p e
      split at h
      · rename_i ti hh v sz i j e1 e2
        split at h
        · rename_i E' sz' L e3
          obtain ⟨g1, rfl, rfl, g4⟩ := gd_elim h
          simp only [Bool.and_eq_true, Bool.or_eq_true] at g1
          unfold aOut
          simp only [e, e1, e2, e3]
          rw [enc_len, enc_at E xs _ h1]
          exact ⟨⟨Nat.eq_of_beq_eq_true g1.1.1.1, h1, Nat.le_of_ble_eq_true g1.1.2⟩, fun ha => by rcases g1.2 with h | h; (rw [ha] at h; cases h); exact Nat.eq_of_beq_eq_true h, _, g4 _, hr⟩
        · exact h.elim
      · exact h.elim
    · exact h.elim
  | eset E xs n y k =>
    simp only [certOut] at h
    obtain ⟨h1, hr⟩ := hr
    split at h
    · rename_i t p x e
      split at h
      · rename_i ti hh v sz i j cs e1 e2 e3 e4
        split at h
        · rename_i E' sz' L ys e5 e6
          obtain ⟨g1, rfl, rfl, g3, g4⟩ := gd_elim h
          simp only [Bool.and_eq_true, Bool.not_eq_true'] at g1
          obtain ⟨⟨⟨⟨p1, p2⟩, p3⟩, p4⟩, p5⟩ := g1
          unfold aOut
          simp only [e, e1, e2, e3, e4, e5, e6]
          rw [enc_len]
          have hset : (E.L xs).set i (spl ((E.L xs).getD i []) j ys) = E.L (xs.modify i y) := by
            rw [enc_at E xs _ h1, g3, E.hL, E.hL]
            apply List.ext_getElem
            · simp
            · intro m q1 q2
              simp only [List.length_set, List.length_map] at q1
              rw [List.getElem_set, List.getElem_map, List.getElem_map, List.getElem_modify]
              by_cases hm : i = m
              · subst hm; simp
              · simp [hm]
          refine ⟨trivial, ⟨Nat.eq_of_beq_eq_true p1, h1, fun hm => ?_, Nat.eq_of_beq_eq_true p4, Nat.le_of_ble_eq_true p5⟩, ?_⟩
          · rw [(memP_iff _ _).2 hm] at p3; cases p3
          · rw [hset]
            exact ⟨_, g4, hr⟩
        · exact h.elim
      · exact h.elim
    · exact h.elim
  | byte z i k =>
    simp only [certOut] at h
    obtain ⟨h0, h1, hr⟩ := hr
    split at h
    · rename_i t x ix e
      split at h
      · rename_i ti z' kk i' e1 e2 e3
        split at h
        · rename_i e4
          obtain ⟨rfl, rfl, g⟩ := h
          unfold aOut
          simp only [e, e1, e2, e3, e4]
          exact ⟨trivial, h0, h1, _, g, hr⟩
        · exact h.elim
      · exact h.elim
    · exact h.elim
  | len E xs k =>
    simp only [certOut] at h
    have hr : Runs k KK := hr
    split at h
    · rename_i args ts e
      split at h
      · rename_i x t ea et
        split at h
        · rename_i ti p e1 e2
          split at h
          · rename_i el e3
            obtain ⟨g1, g2, g3⟩ := gd_elim h
            unfold aOut
            simp only [e]
            refine ⟨x, t, arr1 ea, arr1 et, ?_⟩
            simp only [e1, e2, e3]
            have hl : s.len p = some xs.length := by
              unfold AS.src at g2
              split at g2
              · have := enc_len E xs
                rw [← Option.some.inj g2] at this
                simp only [AS.len]
                simpa using this
              · simp only [AS.len]
                rw [Option.some.inj g2, enc_len]
              · split at g2
                · rename_i hH
                  simp only [AS.len, hH]
                  rw [Option.some.inj g2, enc_len]
                · cases g2
              · cases g2
            rw [hl]
            exact ⟨by simpa using g1, _, g3, hr⟩
          · exact h.elim
        · exact h.elim
      · exact h.elim
    · exact h.elim
  | app E by_ xs ys k =>
    simp only [certOut] at h
    obtain ⟨h0, hr⟩ := hr
    split at h
    · rename_i args ts e
      split at h
      · rename_i x y t t' ea et
        split at h
        · rename_i ti px py e1 e2 e3
          split at h
          · rename_i el e4
            split at h
            · rename_i te z e5 e6
              split at h
              · rename_i xs' l ys' e7 e8
                obtain ⟨g1, rfl, rfl, g3⟩ := gd_elim h
                simp only [Bool.and_eq_true] at g1
                obtain ⟨⟨⟨⟨⟨p0, p1⟩, p2⟩, p3⟩, p4⟩, p5⟩ := g1
                have ht : t = t' := Nat.eq_of_beq_eq_true p0
                subst ht
                unfold aOut
                simp only [e]
                refine ⟨x, y, t, arr2 ea, arr2 et, ?_⟩
                simp only [e1, e2, e3, e4, e5, e6, e7, e8]
                refine ⟨Nat.eq_of_beq_eq_true p1, Nat.le_of_ble_eq_true p2, Nat.le_of_ble_eq_true p3, fun y hy => by rw [enc_sz E ys y hy, Nat.eq_of_beq_eq_true p5], ?_, ?_⟩
                · rw [enc_len, enc_len, Nat.eq_of_beq_eq_true p4]; exact h0
                · have : E.L xs ++ E.L ys = E.L (xs ++ ys) := by rw [E.hL, E.hL, E.hL, List.map_append]
                  rw [this]
                  exact ⟨_, g3, hr⟩
              · exact h.elim
            · exact h.elim
          · exact h.elim
        · exact h.elim
      · exact h.elim
    · exact h.elim
  | cut E xs l hh k =>
    simp only [certOut] at h
    obtain ⟨⟨h0, h1, h2⟩, hr⟩ := hr
    split at h
    · rename_i t x lw hg mx e
      split at h
      · rename_i ti L e1 e2
        split at h
        · rename_i el e3
          split at h
          · rename_i te e4
            obtain ⟨g1, rfl, g2, g3, g4⟩ := gd_elim h
            unfold aOut
            simp only [e, e1, e2, e3, e4]
            have hb : s.bnd hg ((E.L xs).length : Nat) = some hh := by rw [enc_len]; exact g3
            simp only [g2, hb, e3, e4]
            refine ⟨trivial, h0, h1, by rw [enc_len]; exact h2, fun y hy => by rw [enc_sz E xs y hy, Nat.eq_of_beq_eq_true g1], ?_⟩
            have : ((E.L xs).take hh.toNat).drop l.toNat = E.L ((xs.take hh.toNat).drop l.toNat) := by rw [E.hL, E.hL, List.map_drop, List.map_take]
            rw [this]
            exact ⟨_, g4, hr⟩
          · exact h.elim
        · exact h.elim
      · exact h.elim
    · exact h.elim
  | cat x y k =>
    simp only [certOut] at h
    obtain ⟨h0, hr⟩ := hr
    split at h
    · rename_i t u v yt e
      split at h
      · rename_i a' b' e1 e2
        obtain ⟨rfl, rfl, g⟩ := h
        unfold aOut
        simp only [e, e1, e2, binC, if_pos h0]
        exact ⟨_, g, hr⟩
      · exact h.elim
    · exact h.elim
  | bld E xs k =>
    simp only [certOut] at h
    have hr : Runs k KK := hr
    split at h
    · rename_i t n parts e
      split at h
      · rename_i ti e1
        split at h
        · rename_i el e2
          split at h
          · rename_i te e3
            split at h
            · rename_i out' e4
              split at h
              · rename_i ys e5
                obtain ⟨h1, h2, h3⟩ := gd_elim h
                unfold aOut
                simp only [e, e1, e2, e3, e4, e5]
                simp only [Bool.and_eq_true, Bool.or_eq_true, Bool.not_eq_true'] at h1
                have h2' : chunk te.size n ys = E.L xs := by rw [E.hL]; exact Option.some.inj h2
                rw [h2']
                refine ⟨?_, Nat.le_of_ble_eq_true h1.1.2, fun e => by rw [e] at h1; simp at h1, _, h3, hr⟩
                rcases h1.1.1 with h | h
                · exact .inl (Nat.eq_of_beq_eq_true h)
                · exact .inr (Option.isSome_iff_exists.1 h)
              · exact h.elim
            · exact h.elim
          · exact h.elim
        · exact h.elim
      · exact h.elim
    · exact h.elim
  | mks E xs k =>
    simp only [certOut] at h
    obtain ⟨hlen, hr⟩ := hr
    split at h
    · rename_i t l c e
      split at h
      · rename_i ti kl n kc m e1 e2 e3
        split at h
        · rename_i el e4
          split at h
          · rename_i te z e5 e6
            split at h
            · rename_i zc e7
              obtain ⟨h1, h2, h3⟩ := gd_elim h
              simp only [Bool.and_eq_true, decide_eq_true_eq] at h1
              obtain ⟨⟨⟨⟨⟨⟨p1, rfl⟩, p3⟩, p4⟩, p5⟩, p6⟩, p7⟩ := h1
              have h2' : List.replicate m.toNat zc = E.L xs := by rw [E.hL]; exact Option.some.inj h2
              have hl2 : m.toNat = xs.length := by
                have := congrArg List.length h2'
                rw [enc_len, List.length_replicate] at this
                exact this
              unfold aOut
              simp only [e]
              refine ⟨_, ?_, _, h3, hr⟩
              unfold xOut
              simp only [e, e1, e2, e3, e4, e5, e6, e7]
              exact ⟨⟨p1, trivial, Nat.le_of_ble_eq_true p3, by rw [hl2]; exact hlen, Nat.eq_of_beq_eq_true p4, Nat.le_of_ble_eq_true p5, fun u hu => List.all_eq_true.1 p6 u hu, List.isEmpty_iff.1 p7⟩, by rw [h2']⟩
            · exact h.elim
          · exact h.elim
        · exact h.elim
      · exact h.elim
    · exact h.elim
  | unby l k =>
    simp only [certOut] at h
    have hr : Runs k KK := hr
    split at h
    · rename_i t u x e
      split at h
      · rename_i ti tu L e1 e2 e3
        split at h
        · rename_i el e4 e5
          split at h
          · rename_i te e6
            split at h
            · rename_i e7
              obtain ⟨rfl, h2⟩ := h
              unfold aOut
              have hc : convAV P t u (s.ev x) = some (.one (.c (.str (strOfNums l)))) := by
                simp only [convAV, e1, e2, e3, e4, e5, e6, e7, numsOf_map]
              simp only [e, hc]
              exact ⟨_, h2, hr⟩
            · exact h.elim
          · exact h.elim
        · exact h.elim
      · exact h.elim
    · exact h.elim
  | shf b k =>
    simp only [certOut] at h
    obtain ⟨h0, hr⟩ := hr
    split at h
    · rename_i op t x y yt e
      split at h
      · rename_i kx a kb b' e1 e2
        obtain ⟨rfl, h2⟩ := h
        unfold aOut
        have : ¬ b' < 0 := by omega
        simp only [e, e1, e2, binC, if_neg this]
        exact ⟨_, h2, hr⟩
      · rename_i kx a kb b' e1 e2
        obtain ⟨rfl, h2⟩ := h
        unfold aOut
        have : ¬ b' < 0 := by omega
        simp only [e, e1, e2, binC, if_neg this]
        exact ⟨_, h2, hr⟩
      · exact h.elim
    · exact h.elim
  | dvd b k =>
    simp only [certOut] at h
    obtain ⟨h0, hr⟩ := hr
    split at h
    · rename_i op t x y yt e
      split at h
      · rename_i kx a ky b' e1 e2
        obtain ⟨h1, rfl, h2⟩ := gd_elim h
        unfold aOut
        simp only [e, e1, e2, binC, if_pos (And.intro (of_decide_eq_true h1) h0)]
        exact ⟨_, h2, hr⟩
      · rename_i kx a ky b' e1 e2
        obtain ⟨h1, rfl, h2⟩ := gd_elim h
        unfold aOut
        simp only [e, e1, e2, binC, if_pos (And.intro (of_decide_eq_true h1) h0)]
        exact ⟨_, h2, hr⟩
      · exact h.elim
    · exact h.elim
  | mput E ks vs key x k =>
    simp only [certOut] at h
    have hr : Runs k KK := hr
    split at h
    · rename_i t m ix y e
      split at h
      · rename_i ti hh v key' cs e0 e1 e2 e3 e4
        split at h
        · rename_i kt el agg ks' vs' ys e5 e6 e7
          split at h
          · rename_i tk e8
            split at h
            · rename_i e9
              obtain ⟨h1, rfl, rfl, rfl, rfl, h2⟩ := gd_elim h
              simp only [Bool.and_eq_true, Bool.not_eq_true'] at h1
              obtain ⟨q1, q2⟩ := aggB_ok h1.1 e4
              unfold aOut
              simp only [e]
              refine ⟨_, ?_, _, h2, hr⟩
              unfold xOut
              simp only [e, e1, e2, e3, e4, e5, e6, e7, e8]
              refine ⟨e0, ⟨e9, q1, q2, fun hm => ?_⟩, by rw [mputV_L]⟩
              rw [(memP_iff _ _).2 hm] at h1
              simp at h1
            · exact h.elim
          · exact h.elim
        · exact h.elim
      · exact h.elim
    · exact h.elim
  | mget E ks vs z key k =>
    simp only [certOut] at h
    obtain ⟨hl, hr⟩ := hr
    split at h
    · rename_i t x ix ok e
      split at h
      · rename_i ti p key' e1 e2 e3
        split at h
        · rename_i kt el agg ks' vs' e4 e5
          split at h
          · rename_i tk te zv e6 e7 e8
            split at h
            · rename_i zc e9
              split at h
              · rename_i e10
                obtain ⟨h1, rfl, rfl, rfl, rfl, h2⟩ := gd_elim h
                simp only [Bool.and_eq_true, Bool.or_eq_true, Bool.not_eq_true', beq_iff_eq] at h1
                unfold aOut
                simp only [e]
                refine ⟨_, ?_, _, h2, hr⟩
                unfold xOut
                simp only [e, e1, e2, e3, e4, e5, e6, e7, e8, e9]
                refine ⟨⟨e10, h1.1.1, fun ha => ?_, fun ha => ?_⟩, ?_⟩
                · rcases h1.1.2 with h | h
                  · rw [ha] at h; cases h
                  · exact ⟨Nat.eq_of_beq_eq_true h.1, h.2⟩
                · rcases h1.2 with h | h
                  · rw [ha] at h; cases h
                  · cases zv <;> simp [aggV] at h
                    exact ⟨_, rfl⟩
                · rw [lookAV, mget_L E ks' vs z key' hl]
              · exact h.elim
            · exact h.elim
          · exact h.elim
        · exact h.elim
      · exact h.elim
    · exact h.elim
  | nilt E xs k =>
    simp only [certOut] at h
    have hr : ∀ b, (xs ≠ [] → b = false) → Runs (k b) KK := hr
    have hne : ∀ b : Bool, (E.L xs ≠ [] → b = false) → xs ≠ [] → b = false := fun b hb hx => hb (fun e => hx (by
      have := congrArg List.length e
      rw [enc_len] at this
      exact List.eq_nil_of_length_eq_zero (by simpa using this)))
    split at h
    · rename_i op t x y yt e
      split at h
      · rename_i L ti e1 e2
        split at h
        · rename_i el e3
          obtain ⟨rfl, g⟩ := h
          unfold aOut
          have hy : s.ev (.const (.slice none 0 0)) = .one .nil := rfl
          simp only [e, e1, e2, hy, nilTest]
          exact ⟨trivial, .inl trivial, ⟨el, e3⟩, fun b hb => ⟨_, g b, hr b (hne b hb)⟩⟩
        · rename_i el e3
          obtain ⟨rfl, g⟩ := h
          unfold aOut
          have hy : s.ev (.const (.slice none 0 0)) = .one .nil := rfl
          simp only [e, e1, e2, hy, nilTest]
          exact ⟨trivial, .inr trivial, ⟨el, e3⟩, fun b hb => ⟨_, g b, hr b (hne b hb)⟩⟩
        · exact h.elim
      · exact h.elim
    · exact h.elim
  | call M x k =>
    simp only [certOut] at h
    obtain ⟨y, hy, hr⟩ := hr
    split at h
    · rename_i fo args ts e
      split at h
      · rename_i fa ds e1 e2
        split at h
        · rename_i f' caps e3
          obtain ⟨rfl, g1, rfl, g2⟩ := h
          unfold aOut
          rw [← viewVs_vw] at e2
          rw [← callee_cle] at e3
          simp only [e, e1, e2, e3]
          have hsp := M.ok x y hy
          have hm : M.ga x ++ (M.caps x).map (fun c => GArg.val (.one (.c c))) = (ds ++ (M.caps x).map DV.one).map DV.g := by
            have : M.ga x = ds.map DV.g := (Option.some.inj g1).symm
            rw [this, List.map_append, List.map_map]
            rfl
          rw [hm] at hsp
          refine ⟨M.res y, hsp.toSpec, _, ?_, _, g2 y, hr⟩
          unfold AS.kl
          cases hfl : M.flat with
          | false => exact .inl (by rw [lentVs_ln, lentF_ln]; rfl)
          | true => exact .inr ⟨rfl, fun r hr => M.hflat hfl y r (List.mem_append_left _ hr)⟩
        · exact h.elim
      · exact h.elim
    · exact h.elim
  | _ => exact h.elim
theorem callC_ok {c : Cert P J Y} {es : ES} {K : KC P J Y} {KK : J ⊕ Y → Prop} (hd : ∀ x, o.dst = some x → x < nt) (h : callC P o K c es) (hr : Runs c KK) {Kf : AS → Prop} (hk : ∀ c' es', K c' es' → Runs c' KK → Kf es'.den) : OpOK B P nt w0 o es.den Kf := by
  cases c with
  | call M x k =>
    simp only [callC] at h
    obtain ⟨y, hy, hr⟩ := hr
    split at h
    · rename_i fo args ts e
      split at h
      · rename_i fa e1
        split at h
        · rename_i f' caps e3
          obtain ⟨g0, rfl, g1, rfl, g2⟩ := gd_elim h
          simp only [Bool.and_eq_true] at g0
          have h3 := hk _ _ (g2 y) hr
          refine opok_callG hd fo args ts e fa e1 _ _ e3 M.fs _ g1 (M.res y) (M.outs y) (M.ok x y hy) (nodupP_ok g0.1) _ rfl (disjP_ok g0.2) (es.den.kl M.flat (es.den.lentGs (args.toList.map es.den.ev) M.fs ++ es.den.lnF fa)) ?_ (hnd o.dst) ?_
          · unfold AS.kl
            cases hfl : M.flat with
            | false => exact .inl rfl
            | true => exact .inr ⟨rfl, M.hflat hfl y⟩
          · rw [den_put, den_setB, den_take, den_kills, den_frzs] at h3
            exact h3
        · exact h.elim
      · exact h.elim
    · exact h.elim
  | _ => exact h.elim
theorem branch_ok {t : Nat} {K : KC P J Y} {c : Cert P J Y} {es : ES} {KK : J ⊕ Y → Prop} (h : branch t K c es) (hr : Runs c KK) : ∃ c' es', K c' es' ∧ Runs c' KK ∧ es'.den = es.den := by
  cases c with
  | ite u b c d =>
    simp only [branch] at h
    cases hu : Nat.beq u t with
    | false => rw [hu] at h; exact ⟨_, _, h, hr, rfl⟩
    | true =>
      rw [hu] at h
      obtain ⟨h1, h2, h3⟩ := h
      have hden : ∀ z : Bool, b = z → (es.put (some t) (.one (.c (.bool z)))).den = es.den := by
        rintro z rfl
        rw [den_put]
        simp only [AS.put]
        have : (fun i => if i = t then AV.one (.c (.bool b)) else es.den.t i) = es.den.t := by
          funext i
          split
          · rename_i e; subst e; exact h1.symm
          · rfl
        rw [this]
      simp only [Runs] at hr
      cases hb : b with
      | true => rw [hb, if_pos rfl] at hr; exact ⟨_, _, h2, hr, hden true hb⟩
      | false => rw [hb, if_neg (by simp)] at hr; exact ⟨_, _, h3, hr, hden false hb⟩
  | _ => exact ⟨_, _, h, hr, rfl⟩
def RefB (B : Nat → Prop) (nt : Nat) (w0 : Base) (s s' : AS) : Prop := ∀ a w, Sim B nt w0 s a w → Sim B nt w0 s' a w
theorem RefB.refl : RefB B nt w0 s s := fun _ _ h => h
theorem RefB.trans {s1 s2 s3 : AS} (h : RefB B nt w0 s1 s2) (h2 : RefB B nt w0 s2 s3) : RefB B nt w0 s1 s3 := fun a w hs => h2 a w (h a w hs)
theorem undef_getD (a : Act) (t : Nat) (h : a.tmps.size ≤ t) : a.tmps.getD t Go.undef = Go.undef := by simp [Array.getD, Nat.not_lt.2 h]
theorem refB_adoptT (t i E sz : Nat) (h0 : s.t t = .one .nil) : RefB B nt w0 s ((s.new i (.arr E sz [])).put (some t) (.one (.own i (s.N i)))) := by
  intro a w hs
  by_cases hlt : t < nt
  · exact ref_adopt t i E sz hlt h0 B w0 a w hs
  · obtain ⟨gv, hs, _⟩ := hs
    have hv := hs.tmps t
    rw [h0, undef_getD a t (by rw [hs.size]; omega)] at hv
    cases hv with | one hv => cases hv
theorem refB_frz (h v : Nat) : RefB B nt w0 s (s.frz h v) := by
  rintro a w ⟨gv, hs, hK⟩
  obtain ⟨h1, h2⟩ := hs.frzs [(h, v)]
  exact ⟨gv, h1, hK.trans h2⟩
theorem refB_adoptB (h v j i E sz : Nat) (cells : List A) (hH : s.H h v = some (.box cells)) (hj : j < cells.length) (h0 : cells.getD j .any = .nil) :
    RefB B nt w0 s ((s.new i (.arr E sz [])).set h v (.box (cells.set j (.own i (s.N i))))) := by
  rintro a w ⟨gv, hs, hK⟩
  obtain ⟨gv', hs', hk', hg⟩ := hs.new (Below.refl _ _) i (.arr E sz []) (.slice none 0 0) (by intro b hb; simp [blkOf] at hb)
    (fun s' gv' _ _ => ⟨[], by simp, World.ownsRow_nil _ _ _ _, by simp [blkOf], rfl, fun m hm => by simp at hm⟩)
  have hv : ¬ (h = i ∧ v = s.N i) := by
    rintro ⟨rfl, rfl⟩
    exact absurd (hs.ver h _ (by rw [hH]; simp)) (Nat.lt_irrefl _)
  have hH' : (s.new i (.arr E sz [])).H h v = some (.box cells) := by simp only [AS.new]; rw [if_neg hv]; exact hH
  obtain ⟨b, vals, T, e1, e2, e3, e4⟩ := hs'.live h v _ hH'
  obtain ⟨hs2, hk2⟩ := hs'.set h v (by rw [hH']; trivial) (.box (cells.set j (.own i (s.N i)))) rfl rfl rfl (Nat.le_refl _) (fun _ _ _ => rfl)
    (fun hk2 => ⟨b, vals, T, e1, e2, e3, by
      have e4' := hk2.asx e4
      refine ⟨by simp [e4'.1], fun m hm => ?_⟩
      have hm' : m < cells.length := by simpa using hm
      by_cases hmj : m = j
      · subst hmj
        have hx := e4'.2 m hm'
        rw [h0] at hx
        have : (cells.set m (.own i (s.N i))).getD m .any = .own i (s.N i) := by rw [getD_lt _ _ _ hm]; simp
        rw [this]
        generalize vals.toList.getD m Go.undef = v at hx
        cases hx
        exact .own (by simp [AS.set, AS.new]) (fun _ => hg.symm)
      · have : (cells.set j (.own i (s.N i))).getD m .any = cells.getD m .any := by
          rw [getD_lt _ _ _ hm, getD_lt _ _ _ hm', List.getElem_set_ne (by omega)]
        rw [this]
        exact e4'.2 m hm'⟩)
  exact ⟨gv', hs2, hK.trans (hk'.trans hk2)⟩
theorem pre_ok {K : KC P J Y} {KK : J ⊕ Y → Prop} : ∀ (c : Cert P J Y) (es : ES), pre K c es → Runs c KK → ∃ c' es', K c' es' ∧ Runs c' KK ∧ RefB B nt w0 es.den es'.den := by
  intro c
  induction c with
  | adoptT t E sz k ih =>
    intro es h hr
    obtain ⟨h1, h2⟩ := h
    obtain ⟨c', es', q1, q2, q3⟩ := ih _ h2 hr
    rw [den_put, den_new] at q3
    exact ⟨c', es', q1, q2, (refB_adoptT t (1000 * t + 999) E sz h1).trans q3⟩
  | adoptB hh v i E sz k ih =>
    intro es h hr
    simp only [pre] at h
    split at h
    · rename_i cells hH
      obtain ⟨h1, h2, h3⟩ := gd_elim h
      obtain ⟨c', es', q1, q2, q3⟩ := ih _ h3 hr
      rw [den_set, den_new] at q3
      exact ⟨c', es', q1, q2, (refB_adoptB hh v i (1000 * i + 998) E sz cells hH (Nat.le_of_ble_eq_true h1) h2).trans q3⟩
    · exact h.elim
  | frz hh v k ih =>
    intro es h hr
    obtain ⟨c', es', q1, q2, q3⟩ := ih _ h hr
    rw [den_frz] at q3
    exact ⟨c', es', q1, q2, (refB_frz hh v).trans q3⟩
  | _ => intro es h hr; exact ⟨_, _, h, hr, RefB.refl⟩
theorem atOp_ok {K : KC P J Y} {c : Cert P J Y} {es : ES} {KK : J ⊕ Y → Prop} (h : atOp o K c es) (hr : Runs c KK) : ∃ c' es', K c' es' ∧ Runs c' KK ∧ RefB B nt w0 es.den es'.den := by
  cases c with
  | frzo d hh v k =>
    simp only [atOp] at h
    split at h
    · rename_i e he
      cases hb : Nat.beq d e with
      | true => rw [hb] at h; exact ⟨_, _, h, hr, by rw [den_frz]; exact refB_frz hh v⟩
      | false => rw [hb] at h; exact ⟨_, _, h, hr, RefB.refl⟩
    · exact ⟨_, _, h, hr, RefB.refl⟩
  | _ => exact ⟨_, _, h, hr, RefB.refl⟩
theorem regF_ok {d : Nat} {K : KC P J Y} {KK : J ⊕ Y → Prop} : ∀ (c : Cert P J Y) (es : ES), regF d K c es → Runs c KK → ∃ c' es', K c' es' ∧ Runs c' KK ∧ RefB B nt w0 es.den es'.den := by
  intro c
  induction c with
  | frzo e hh v k ih =>
    intro es h hr
    simp only [regF] at h
    cases hb : Nat.beq e d with
    | true =>
      rw [hb] at h
      obtain ⟨c', es', q1, q2, q3⟩ := ih _ h hr
      rw [den_frz] at q3
      exact ⟨c', es', q1, q2, (refB_frz hh v).trans q3⟩
    | false => rw [hb] at h; exact ⟨_, _, h, hr, RefB.refl⟩
  | _ => intro es h hr; exact ⟨_, _, h, hr, RefB.refl⟩
def weakR : R → R
  | .own _ _ xs => .c (.sl xs)
  | r => r
def weakV : RV → RV
  | .one r => .one (weakR r)
  | .agg rs => .agg (rs.map weakR)
theorem weakR_ok : ∀ rs : List R, All2 WeakR rs (rs.map weakR)
  | [] => .nil
  | r :: rs => .cons (by cases r with
    | c x => exact .rfl
    | own E sz xs => exact .own) (weakR_ok rs)
theorem weakV_ok : ∀ res : List RV, All2 WeakV res (res.map weakV)
  | [] => .nil
  | r :: rs => .cons (by cases r with
    | one r => exact .one (by cases r with
      | c x => exact .rfl
      | own E sz xs => exact .own)
    | agg rs => exact .agg (weakR_ok rs)) (weakV_ok rs)
theorem SpecG.weak {f : FuncId} {args : List GArg} {res : List RV} {outs : List (List R)} (h : SpecG P f args res outs) : SpecG P f args (res.map weakV) outs := by
  refine ⟨h.1, fun w ok vs gs h1 h2 h3 h4 => (h.2 w ok vs gs h1 h2 h3 h4).mono ?_⟩
  rintro e w' ⟨us, cs, ocs, rfl, hb, hf, ho, hrs⟩
  exact ⟨us, cs, ocs, rfl, hb, weak_fits (weakV_ok res) hf, ho, hrs.weak (forall2_app (weak_cells (weakV_ok res)) (weakR_refl _))⟩
def Mir.weak {f : FuncId} {X Y : Type} (M : Mir P f X Y) : Mir P f X Y :=
  { fs := M.fs, ga := M.ga, caps := M.caps, res := fun y => (M.res y).map weakV, outs := M.outs, R := M.R, ok := fun x y h => (M.ok x y h).weak, flat := false, hflat := fun h => nomatch h }
end
end Go.AV
namespace Go.AV
open Go.RowKit
section
variable {B : Nat → Prop} {nt : Nat} {w0 : Base} {w : World} {s s' : AS} {a : Act} {gv : GV} {P : Program} {o : Oper} {J Y : Type} {K : AS → Prop} [InvC P B w0]
def gOK (B : Nat → Prop) (P : Program) (nt : Nat) (w0 : Base) (ops : Array Oper) (o : Oper) (s : AS) (K : AS → Prop) : Prop :=
  match o.guard with
  | none => OpOK B P nt w0 o s K
  | some (j, want) => match guardSlot ops j with
    | some d => match s.t d with
      | .one (.c (.bool b)) => (b = want → OpOK B P nt w0 o s K) ∧ (b = !want → K (s.put o.dst (.tup [])))
      | .tup [] => K (s.put o.dst (.tup []))
      | _ => False
    | none => False
theorem gOK_ok {ops : Array Oper} {o : Oper} (hd : ∀ x, o.dst = some x → x < nt) (hg : ∀ j b, o.guard = some (j, b) → ∀ d, guardSlot ops j = some d → d < nt) (h : gOK B P nt w0 ops o s K) (hs : Sim B nt w0 s a w) (Q : Exit → Act → World → Prop) :
    if Region.wanted o (yielded ops a.tmps) then o.wp P a w (fun a' w' => ∃ s', K s' ∧ Sim B nt w0 s' a' w') Q else ∃ s', K s' ∧ Sim B nt w0 s' (a.put o.dst Go.undef) w := by
  obtain ⟨gv, hs, hK⟩ := hs
  unfold gOK at h
  cases hgd : o.guard with
  | none =>
    rw [hgd] at h
    have : Region.wanted o (yielded ops a.tmps) = true := by simp [Region.wanted, hgd]
    rw [if_pos this]
    exact h a w ⟨gv, hs, hK⟩ Q
  | some p =>
    obtain ⟨j, want⟩ := p
    rw [hgd] at h
    simp only at h
    split at h
    · rename_i d hgs
      have hdlt := hg j want hgd d hgs
      have hsz := hs.size
      have hval := hs.tmps d
      have hlt : d < a.tmps.size := by rw [hsz]; exact hdlt
      have hget : a.tmps[d]? = some (a.tmps.getD d Go.undef) := by
        rw [Array.getElem?_eq_getElem hlt]
        simp only [Array.getD, hlt, dif_pos]
        rfl
      have hy : yielded ops a.tmps j = match a.tmps.getD d Go.undef with | .bool b => some b | _ => none := by
        unfold yielded
        unfold guardSlot at hgs
        rw [hgs]
        simp only [Option.bind_some, hget]
        cases a.tmps.getD d Go.undef <;> rfl
      split at h
      · rename_i b hb
        rw [hb] at hval
        have hv := hval.bool_inv
        rw [hv] at hy
        by_cases hbw : b = want
        · have : Region.wanted o (yielded ops a.tmps) = true := by simp [Region.wanted, hgd, hy, hbw]
          rw [if_pos this]
          exact h.1 hbw a w ⟨gv, hs, hK⟩ Q
        · have : ¬ Region.wanted o (yielded ops a.tmps) = true := by simp [Region.wanted, hgd, hy, hbw]
          rw [if_neg this]
          exact ⟨_, h.2 (by cases b <;> cases want <;> simp_all), gv, hs.put o.dst hd _ _ undef_ok, hK.putd _ _⟩
      · rename_i hb
        rw [hb] at hval
        have hv : a.tmps.getD d Go.undef = Go.undef := by
          generalize a.tmps.getD d Go.undef = v at hval
          cases hval with
          | @tup _ vs hn _ =>
            have : vs = #[] := by simpa using hn
            rw [this]; rfl
        rw [hv] at hy
        have hy' : yielded ops a.tmps j = none := by rw [hy]; rfl
        have : ¬ Region.wanted o (yielded ops a.tmps) = true := by simp [Region.wanted, hgd, hy']
        rw [if_neg this]
        exact ⟨_, h, gv, hs.put o.dst hd _ _ undef_ok, hK.putd _ _⟩
      · exact h.elim
    · exact h.elim
def WO (B : Nat → Prop) (P : Program) (nt : Nat) (w0 : Base) (ops : Array Oper) (l : List Nat) (s : AS) (K : AS → Prop) : Prop :=
  ∀ a w, Sim B nt w0 s a w → ∀ Q : Exit → Act → World → Prop, (∀ s' a' w', K s' → Sim B nt w0 s' a' w' → Q .normal a' w') → wpOps P ops Q l a w
theorem wo_nil {ops : Array Oper} (h : K s) : WO B P nt w0 ops [] s K := fun a w hs Q hQ => hQ s a w h hs
theorem wo_ref {ops : Array Oper} {l : List Nat} (h : RefB B nt w0 s s') (h2 : WO B P nt w0 ops l s' K) : WO B P nt w0 ops l s K := fun a w hs Q hQ => h2 a w (h a w hs) Q hQ
theorem wo_cons {ops : Array Oper} (hsl : slotsOk nt ops = true) {j : Nat} {l : List Nat} (ho : ops[j]? = some o) (h : gOK B P nt w0 ops o s (fun s' => WO B P nt w0 ops l s' K)) : WO B P nt w0 ops (j :: l) s K := by
  intro a w hs Q hQ
  simp only [wpOps, ho]
  have hg := gOK_ok (slotsOk_get hsl ho) (fun j' b _ d hd => slotsOk_guard hsl hd) h hs Q
  split
  · rename_i hw
    rw [if_pos hw] at hg
    left
    exact Oper.wp_mono (fun a' w' ⟨s', h1, h2⟩ => h1 a' w' h2 Q hQ) hg
  · rename_i hw
    rw [if_neg hw] at hg
    obtain ⟨s', h1, h2⟩ := hg
    exact h1 _ w h2 Q hQ
theorem opOK_of_aOut (hd : ∀ x, o.dst = some x → x < nt) {R : Out → Prop} (h : aOut P o s R) (hk : ∀ out, R out → K (out.apply s o.dst)) : OpOK B P nt w0 o s K :=
  aOp_ok hd (aOut_mono hk h)
theorem opC_ok {c : Cert P J Y} {es : ES} {Kc : KC P J Y} {KK : J ⊕ Y → Prop} (hd : ∀ x, o.dst = some x → x < nt) (h : opC P false o Kc c es) (hr : Runs c KK) {Kf : AS → Prop} (hk : ∀ c' es', Kc c' es' → Runs c' KK → Kf es'.den) : OpOK B P nt w0 o es.den Kf := by
  unfold opC at h
  have pureCase : ∀ c : Cert P J Y, Runs c KK → certOut P o es.den (fun c out => gd (!false || dynB o out) (Kc c (es.apply o.dst out))) c → OpOK B P nt w0 o es.den Kf := by
    intro c hr h
    refine opOK_of_aOut hd (certOut_ok h hr) fun out ⟨c', h1, h2⟩ => ?_
    rw [← den_apply]
    exact hk _ _ (gd_elim h1).2 h2
  split at h
  · rename_i out e
    refine opOK_of_aOut hd (xop_ok (K := (· = out)) e rfl) fun out' e' => ?_
    subst e'
    rw [← den_apply]
    exact hk _ _ (gd_elim h).2 hr
  · split at h
    · rename_i M x k
      cases hp : pureF M.fs with
      | true => rw [hp] at h; simp only [cond_true] at h; exact pureCase _ hr h
      | false => rw [hp] at h; simp only [cond_false] at h; exact callC_ok hd (gd_elim h).2 hr hk
    · rename_i S k
      obtain ⟨h1, h2⟩ := (gd_elim h).2
      exact S.ok _ _ _ inferInstance o es Kf hd h1 (fun b hb => hk _ _ (h2 b) (hr b hb))
    · exact pureCase _ hr h
theorem asks_ok {K0 : KC P J Y} {c : Cert P J Y} {es : ES} {KK : J ⊕ Y → Prop} (h : asks o K0 c es) (hr : Runs c KK) : ∃ c' es', K0 c' es' ∧ Runs c' KK ∧ es'.den = es.den := by
  unfold asks at h
  generalize o.op = op at h
  cases op with
  | pick c' x y => cases c' with
    | tmp t => exact branch_ok h hr
    | _ => exact ⟨_, _, h, hr, rfl⟩
  | _ => exact ⟨_, _, h, hr, rfl⟩
theorem stepC_ok {ops : Array Oper} {c : Cert P J Y} {es : ES} {Kc : KC P J Y} {KK : J ⊕ Y → Prop} (hd : ∀ x, o.dst = some x → x < nt) (h : stepC P ops false o Kc c es) (hr : Runs c KK) {Kf : AS → Prop} (hk : ∀ c' es', Kc c' es' → Runs c' KK → Kf es'.den) : gOK B P nt w0 ops o es.den Kf := by
  unfold stepC at h
  unfold gOK
  have opCase : ∀ (c : Cert P J Y) (es : ES), Runs c KK → asks o (opC P false o Kc) c es → OpOK B P nt w0 o es.den Kf := by
    intro c es hr h
    obtain ⟨c', es', h1, h2, h3⟩ := asks_ok h hr
    rw [← h3]
    exact opC_ok hd h1 h2 hk
  cases hg : o.guard with
  | none => rw [hg] at h; exact opCase c es hr h
  | some p =>
    obtain ⟨j, want⟩ := p
    rw [hg] at h
    simp only at h ⊢
    cases hgs : guardSlot ops j with
    | none => rw [hgs] at h; exact h.elim
    | some d =>
      rw [hgs] at h
      simp only at h ⊢
      obtain ⟨c', es', h1, h2, h3⟩ := branch_ok h hr
      rw [← h3]
      have ht : es'.den.t d = lkT es'.T d := rfl
      split at h1
      · rename_i e
        rw [ht, e]
        simp only
        cases want with
        | true => exact ⟨fun _ => opCase c' es' h2 h1, fun e => (by cases e)⟩
        | false => exact ⟨fun e => (by cases e), fun _ => by rw [← den_put]; exact hk _ _ h1 h2⟩
      · rename_i e
        rw [ht, e]
        simp only
        cases want with
        | true => exact ⟨fun e => (by cases e), fun _ => by rw [← den_put]; exact hk _ _ h1 h2⟩
        | false => exact ⟨fun _ => opCase c' es' h2 h1, fun e => (by cases e)⟩
      · rename_i e
        rw [ht, e]
        simp only
        rw [← den_put]
        exact hk _ _ h1 h2
      · exact h1.elim
theorem runC_ok {ops : Array Oper} (hsl : slotsOk nt ops = true) {Kc : KC P J Y} {KK : J ⊕ Y → Prop} {Kf : AS → Prop} (hk : ∀ c' es', Kc c' es' → Runs c' KK → Kf es'.den) : ∀ (l : List Nat) (c : Cert P J Y) (es : ES), (∀ j ∈ l, (ops[j]?).isSome = true) →
    runC P ops false (l.filterMap (ops[·]?)) Kc c es → Runs c KK → WO B P nt w0 ops l es.den Kf := by
  intro l
  induction l with
  | nil => intro c es _ h hr; exact wo_nil (hk _ _ h hr)
  | cons j l ih =>
    intro c es hj h hr
    have hj0 := hj j (by simp)
    cases ho : ops[j]? with
    | none => simp [ho] at hj0
    | some o =>
      rw [List.filterMap_cons] at h
      simp only [ho] at h
      simp only [runC, cond_false] at h
      obtain ⟨c', es', h1, h2, h3⟩ := atOp_ok (B := B) (nt := nt) (w0 := w0) h hr
      exact wo_ref h3 (wo_cons hsl ho (stepC_ok (slotsOk_get hsl ho) h1 h2 fun c'' es'' q1 q2 => ih c'' es'' (fun j hj' => hj j (by simp [hj'])) q1 q2))
theorem dynB_ok {out : Out} (h : dynB o out = true) : dynOk o out := by
  have he : ∀ (l : List (Nat × Nat)), (l.isEmpty || isW o) = true → isW o = false → l = [] := by
    intro l h hw
    rw [hw, Bool.or_false] at h
    exact List.isEmpty_iff.1 h
  unfold dynOk
  cases out with
  | val v => exact ⟨fun _ => trivial, trivial, trivial⟩
  | make h b v => exact ⟨fun _ => trivial, trivial, trivial⟩
  | built l h' b v => exact ⟨fun hw => he l h hw, trivial, trivial⟩
  | packed l h' b v => exact ⟨fun hw => he l h hw, trivial, trivial⟩
  | call l base rs v =>
    simp only [dynB, Bool.and_eq_true] at h
    exact ⟨fun hw => ⟨he l h.2 hw, Nat.le_of_ble_eq_true h.1⟩, trivial, Nat.le_of_ble_eq_true h.1⟩
  | store l h' v b =>
    simp only [dynB, Bool.and_eq_true] at h
    exact ⟨fun hw => by rw [hw] at h; simp at h, List.isEmpty_iff.1 h.1, trivial⟩
theorem opD_ok {c : Cert P J Y} {es : ES} {Kc : KC P J Y} {KK : J ⊕ Y → Prop} (h : opC P true o Kc c es) (hr : Runs c KK) {Kf : AS → Prop} (hk : ∀ c' es', Kc c' es' → Runs c' KK → Kf es'.den) : aOut P o es.den (fun out => dynOk o out ∧ Kf (out.apply es.den o.dst)) := by
  unfold opC at h
  have pureCase : ∀ c : Cert P J Y, Runs c KK → certOut P o es.den (fun c out => gd (!true || dynB o out) (Kc c (es.apply o.dst out))) c → aOut P o es.den (fun out => dynOk o out ∧ Kf (out.apply es.den o.dst)) := by
    intro c hr h
    refine aOut_mono (fun out ⟨c', h1, h2⟩ => ?_) (certOut_ok h hr)
    obtain ⟨g1, g2⟩ := gd_elim h1
    rw [← den_apply]
    exact ⟨dynB_ok (by simpa using g1), hk _ _ g2 h2⟩
  split at h
  · rename_i out e
    refine aOut_mono (fun out' e' => ?_) (xop_ok (K := (· = out)) e rfl)
    subst e'
    obtain ⟨g1, g2⟩ := gd_elim h
    rw [← den_apply]
    exact ⟨dynB_ok (by simpa using g1), hk _ _ g2 hr⟩
  · split at h
    · rename_i M x k
      cases hp : pureF M.fs with
      | true => rw [hp] at h; simp only [cond_true] at h; exact pureCase _ hr h
      | false => rw [hp] at h; simp only [cond_false] at h; exact absurd (gd_elim h).1 (by simp)
    · exact absurd (gd_elim h).1 (by simp)
    · exact pureCase _ hr h
theorem stepD_ok {ops : Array Oper} {c : Cert P J Y} {es : ES} {Kc : KC P J Y} {KK : J ⊕ Y → Prop} (h : stepC P ops true o Kc c es) (hr : Runs c KK) {Kf : AS → Prop} (hk : ∀ c' es', Kc c' es' → Runs c' KK → Kf es'.den) : dG P ops o es.den Kf := by
  unfold stepC at h
  unfold dG
  have opCase : ∀ (c : Cert P J Y) (es : ES), Runs c KK → asks o (opC P true o Kc) c es → aOut P o es.den (fun out => dynOk o out ∧ Kf (out.apply es.den o.dst)) := by
    intro c es hr h
    obtain ⟨c', es', h1, h2, h3⟩ := asks_ok h hr
    rw [← h3]
    exact opD_ok h1 h2 hk
  cases hg : o.guard with
  | none => rw [hg] at h; exact opCase c es hr h
  | some p =>
    obtain ⟨j, want⟩ := p
    rw [hg] at h
    simp only at h ⊢
    cases hgs : guardSlot ops j with
    | none => rw [hgs] at h; exact h.elim
    | some d =>
      rw [hgs] at h
      simp only at h ⊢
      obtain ⟨c', es', h1, h2, h3⟩ := branch_ok h hr
      rw [← h3]
      have ht : es'.den.t d = lkT es'.T d := rfl
      split at h1
      · rename_i e
        rw [ht, e]
        simp only
        cases want with
        | true => exact ⟨fun _ => opCase c' es' h2 h1, fun e => (by cases e)⟩
        | false => exact ⟨fun e => (by cases e), fun _ => by rw [← den_put]; exact hk _ _ h1 h2⟩
      · rename_i e
        rw [ht, e]
        simp only
        cases want with
        | true => exact ⟨fun e => (by cases e), fun _ => by rw [← den_put]; exact hk _ _ h1 h2⟩
        | false => exact ⟨fun _ => opCase c' es' h2 h1, fun e => (by cases e)⟩
      · rename_i e
        rw [ht, e]
        simp only
        rw [← den_put]
        exact hk _ _ h1 h2
      · exact h1.elim
theorem runD_ok {ops : Array Oper} {Kc : KC P J Y} {KK : J ⊕ Y → Prop} {Kf : AS → Prop} (hk : ∀ c' es', Kc c' es' → Runs c' KK → Kf es'.den) : ∀ (l : List Oper) (c : Cert P J Y) (es : ES),
    runC P ops true l Kc c es → Runs c KK → dWalk P ops l es.den Kf := by
  intro l
  induction l with
  | nil => intro c es h hr; exact hk _ _ h hr
  | cons o l ih =>
    intro c es h hr
    simp only [runC, cond_true] at h
    exact stepD_ok h hr fun c'' es'' q1 q2 => ih c'' es'' q1 q2
theorem ptrRoot_ok {tab : Tab} {s : AS} {o : Oper} (h : ptrB tab s o = true) : ptrAt tab o s := by
  intro r p hr hp
  unfold ptrB at h
  simp only [hr, hp] at h
  split at h
  · rename_i e v off he
    simp only [Bool.and_eq_true] at h
    have h1 := Nat.eq_of_beq_eq_true h.1
    have h2 := Nat.eq_of_beq_eq_true h.2
    subst h1
    subst h2
    exact ⟨_, he⟩
  · cases h
theorem runDR_ok {ops : Array Oper} {tab : Tab} {Kc : KC P J Y} {KK : J ⊕ Y → Prop} {Kf : AS → Prop} (hk : ∀ c' es', Kc c' es' → Runs c' KK → Kf es'.den) : ∀ (l : List Oper) (c : Cert P J Y) (es : ES),
    runDR P ops tab l Kc c es → Runs c KK → dWalkR P tab ops l es.den Kf := by
  intro l
  induction l with
  | nil => intro c es h hr; exact hk _ _ h hr
  | cons o l ih =>
    intro c es h hr
    unfold runDR at h
    obtain ⟨g1, g2⟩ := gd_elim h
    exact ⟨ptrRoot_ok g1, stepD_ok g2 hr fun c'' es'' q1 q2 => ih c'' es'' q1 q2⟩
theorem region_ok {id : Nat} {ops : Array Oper} {draw : Bool} (hm : P.follows .mixedOrders = true) {c : Cert P J Y} {es : ES} {Kc : KC P J Y} {KK : J ⊕ Y → Prop} {Q : Exit → AS → Prop} (h : gd (slotsOk nt ops && (!draw || drawOk ops || drawOkR (tabE es ops.toList []) ops)) (bif draw && !drawOk ops then runDR P ops (tabE es ops.toList []) ops.toList Kc c es else runC P ops draw ops.toList Kc c es)) (hr : Runs c KK)
    (hk : ∀ c' es', Kc c' es' → Runs c' KK → Q .normal es'.den) : AWp B nt w0 P (.region id ops draw) Q es.den := by
  obtain ⟨g1, g2⟩ := gd_elim h
  simp only [Bool.and_eq_true] at g1
  cases draw with
  | true =>
    cases hd : drawOk ops with
    | true =>
      rw [hd] at g2
      exact awp_draw hm g1.1 hd (runD_ok hk _ c es g2 hr)
    | false =>
      rw [hd] at g1 g2
      exact awp_drawR hm g1.1 (by simpa using g1.2) (runDR_ok hk _ c es g2 hr)
  | false =>
    intro a w hs
    refine wp_region (runC_ok (B := B) (w0 := w0) g1.1 hk (List.range ops.size) c es (fun j hj => (by have h1 : j < ops.size := (by simpa using hj); simp [h1])) (by rw [filterMap_range]; exact g2) hr a w hs _ (fun s' a' w' h1 h2 => ⟨s', h1, h2⟩))
end
end Go.AV
namespace Go.AV
open Go.RowKit
section
variable {B : Nat → Prop} {nt : Nat} {w0 : Base} {w : World} {s s' : AS} {a : Act} {gv : GV} {P : Program} {o : Oper} {J Y : Type} {K : AS → Prop} [InvC P B w0]
theorem rnm_some : ∀ {ns rs : List (Nat × Nat)} {h v : Nat} {p : Nat × Nat}, rnm ns rs h v = some p → ∃ k : Nat, ns[k]? = some p ∧ rs[k]? = some (h, v) := by
  intro ns
  induction ns with
  | nil => intro rs h v p e; simp [rnm] at e
  | cons n ns ih =>
    intro rs h v p e
    cases rs with
    | nil => simp [rnm] at e
    | cons r rs =>
      simp only [rnm, nbeq] at e
      by_cases h1 : h = r.1 ∧ v = r.2
      · obtain ⟨rfl, rfl⟩ := h1
        simp at e
        subst e
        exact ⟨0, rfl, rfl⟩
      · have : (decide (h = r.1) && decide (v = r.2)) = false := by
          rw [← Bool.not_eq_true]
          simpa using h1
        rw [this] at e
        obtain ⟨k, q1, q2⟩ := ih e
        exact ⟨k + 1, by simpa using q1, by simpa using q2⟩
theorem nodup_get {α : Type} : ∀ {l : List α} {k k' : Nat} {x : α}, l.Nodup → l[k]? = some x → l[k']? = some x → k = k' := by
  intro l
  induction l with
  | nil => intro k k' x _ h; simp at h
  | cons y l ih =>
    intro k k' x hnd h h'
    obtain ⟨h1, h2⟩ := List.nodup_cons.1 hnd
    cases k with
    | zero =>
      cases k' with
      | zero => rfl
      | succ k' =>
        simp only [List.getElem?_cons_zero, Option.some.injEq] at h
        subst h
        exact absurd (List.mem_of_getElem? (by simpa using h')) h1
    | succ k =>
      cases k' with
      | zero =>
        simp only [List.getElem?_cons_zero, Option.some.injEq] at h'
        subst h'
        exact absurd (List.mem_of_getElem? (by simpa using h)) h1
      | succ k' => exact congrArg (· + 1) (ih h2 (x := x) (by simpa using h) (by simpa using h'))
def oldName : List (Nat × Nat) → List (Nat × Nat) → Nat × Nat → Nat × Nat
  | n :: ns, r :: rs, p => if p = n then r else oldName ns rs p
  | _, _, p => p
theorem oldName_get : ∀ {ns rs : List (Nat × Nat)} {k : Nat} {p q : Nat × Nat}, ns.Nodup → ns[k]? = some p → rs[k]? = some q → oldName ns rs p = q := by
  intro ns
  induction ns with
  | nil => intro rs k p q _ h; simp at h
  | cons n ns ih =>
    intro rs k p q hnd h1 h2
    cases rs with
    | nil => simp at h2
    | cons r rs =>
      obtain ⟨hn, hnd⟩ := List.nodup_cons.1 hnd
      cases k with
      | zero => simp at h1 h2; simp [oldName, h1, h2]
      | succ k =>
        have h1' : ns[k]? = some p := by simpa using h1
        have hne : p ≠ n := fun e => hn (by rw [← e]; exact List.mem_of_getElem? h1')
        simp only [oldName, if_neg hne]
        exact ih hnd h1' (by simpa using h2)
theorem canonH_get : ∀ {Bs : List ((Nat × Nat) × Blk)} {h v : Nat} {b : Blk}, lkH (canonH Bs) h v = some b → ((h, v), b) ∈ Bs := by
  intro Bs
  induction Bs with
  | nil => intro h v b e; simp [canonH, lkH] at e
  | cons p Bs ih =>
    intro h v b e
    obtain ⟨⟨i, u⟩, c⟩ := p
    simp only [canonH, lkH, nbeq] at e
    by_cases h1 : h = i ∧ v = u
    · obtain ⟨rfl, rfl⟩ := h1
      simp at e
      subst e
      simp
    · have : (decide (h = i) && decide (v = u)) = false := by
        rw [← Bool.not_eq_true]
        simpa using h1
      rw [this] at e
      exact List.mem_cons_of_mem _ (ih e)
theorem namesOk_get : ∀ {ns rs : List (Nat × Nat)} {k : Nat} {p q : Nat × Nat}, namesOk ns rs = true → ns[k]? = some p → rs[k]? = some q → p.2 = 1 ∨ (p.2 = 0 ∧ p = q) := by
  intro ns
  induction ns with
  | nil => intro rs k p q _ h; simp at h
  | cons n ns ih =>
    intro rs k p q hn h1 h2
    cases rs with
    | nil => simp at h2
    | cons r rs =>
      simp only [namesOk, Bool.and_eq_true, Bool.or_eq_true] at hn
      cases k with
      | zero =>
        simp at h1 h2
        subst h1 h2
        rcases hn.1 with h | h
        · exact .inl (Nat.eq_of_beq_eq_true h)
        · exact .inr ⟨Nat.eq_of_beq_eq_true h.1.1, Prod.ext (Nat.eq_of_beq_eq_true h.2) ((Nat.eq_of_beq_eq_true h.1.1).trans (Nat.eq_of_beq_eq_true h.1.2).symm)⟩
      | succ k => exact ih hn.2 (by simpa using h1) (by simpa using h2)
theorem rnBs_get {ns rs : List (Nat × Nat)} : ∀ {ns' rs' : List (Nat × Nat)} {Bs : List ((Nat × Nat) × Blk)}, rnBs s ns rs ns' rs' = some Bs → ns'.length = rs'.length ∧ namesOf Bs = ns' ∧
    ∀ p b, (p, b) ∈ Bs → ∃ (k : Nat) (q : Nat × Nat), ns'[k]? = some p ∧ rs'[k]? = some q ∧ rnB s ns rs (s.H q.1 q.2) = some b := by
  intro ns'
  induction ns' with
  | nil =>
    intro rs' Bs h
    cases rs' with
    | nil => simp [rnBs] at h; subst h; exact ⟨rfl, rfl, fun p b hp => by simp at hp⟩
    | cons => simp [rnBs] at h
  | cons n ns' ih =>
    intro rs' Bs h
    cases rs' with
    | nil => simp [rnBs] at h
    | cons r rs' =>
      simp only [rnBs] at h
      split at h
      · rename_i b l h1 h2
        cases h
        obtain ⟨q1, q2, q3⟩ := ih h2
        refine ⟨by simp [q1], by simp [namesOf, q2], fun p b' hp => ?_⟩
        rcases List.mem_cons.1 hp with e | hp
        · cases e; exact ⟨0, r, rfl, rfl, h1⟩
        · obtain ⟨k, q, g1, g2, g3⟩ := q3 p b' hp
          exact ⟨k + 1, q, by simpa using g1, by simpa using g2, g3⟩
      · cases h
theorem proj_ok {sig : List Nat} {ns ren : List (Nat × Nat)} {sn : Snap} (h : proj s sig ns ren = some sn) (hos : ∀ h, w0.os.N h ≤ 1) : RefB B nt w0 s sn.es.den := by
  unfold proj at h
  obtain ⟨g1, h⟩ := bo_some h
  simp only [Bool.and_eq_true] at g1
  have hnd := nodupP_ok g1.1.1
  have hnr := nodupP_ok g1.1.2
  split at h
  · rename_i T Bs hT hBs
    cases h
    obtain ⟨hl, hnames, hget⟩ := rnBs_get hBs
    rintro a w ⟨gv, hs, hK⟩
    let f := oldName ns ren
    let gv' : GV := fun i v => gv (f (i, v)).1 (f (i, v)).2
    let s' : AS := (Snap.es ⟨T, Bs⟩).den
    -- what stands under a new name
    have hH : ∀ i v blk, s'.H i v = some blk → ∃ k : Nat, ns[k]? = some (i, v) ∧ ren[k]? = some (f (i, v)) ∧ rnB s ns ren (s.H (f (i, v)).1 (f (i, v)).2) = some blk := by
      intro i v blk hb
      obtain ⟨k, q, q1, q2, q3⟩ := hget (i, v) blk (canonH_get hb)
      have this : f (i, v) = q := oldName_get hnd q1 q2
      exact ⟨k, q1, by rw [q2, this], by rw [this]; exact q3⟩
    have hOw : ∀ i v, Ow (s'.H i v) → Ow (s.H (f (i, v)).1 (f (i, v)).2) := by
      intro i v hi
      obtain ⟨blk, e, ho⟩ := hi.ex
      obtain ⟨k, _, _, q3⟩ := hH i v blk e
      unfold rnB at q3
      split at q3
      · rename_i e2; rw [e2]; trivial
      · rename_i e2; rw [e2]; trivial
      · rename_i e2; rw [e2]; trivial
      · rename_i e2; rw [e2]; trivial
      · cases q3
    have hokb : ∀ b, okb B s gv b → okb B s' gv' b := fun b hb => ⟨hb.1, fun i v hi => hb.2 _ _ (hOw i v hi)⟩
    have hN : ∀ h, s'.N h = 2 := fun _ => rfl
    have hlt2 : ∀ (k : Nat) (p : Nat × Nat), ns[k]? = some p → p.2 < 2 := by
      intro k p hp
      have hk : k < ren.length := by
        have := (List.getElem?_eq_some_iff.1 hp).1
        omega
      rcases namesOk_get g1.2 hp (List.getElem?_eq_getElem hk) with h | h <;> omega
    have hc : ∀ (x : C) (v : Value), RepC w (okb B s gv) x v → RepC w (okb B s' gv') x v := fun x v h => h.mono (fun b _ hb => hokb b hb) (Nat.le_refl _) (fun _ _ _ => rfl)
    have hA : ∀ (x : A) (v : Value), RepA B w s gv x v → ∀ y, rnA s ns ren x = some y → RepA B w s' gv' y v := by
      intro x v hx
      induction hx with
      | c h => intro y hy; simp [rnA] at hy; subst hy; exact .c (hc _ _ h)
      | nil => intro y hy; simp [rnA] at hy; subst hy; exact .nil
      | @own i u x hv hx =>
        intro y hy
        simp only [rnA] at hy
        split at hy
        · rename_i p hp
          cases hy
          obtain ⟨k, q1, q2⟩ := rnm_some hp
          refine .own (by rw [hN]; exact hlt2 k p q1) (fun hne => ?_)
          have hf : f p = (i, u) := oldName_get hnd q1 q2
          have : s.H i u ≠ none := by
            obtain ⟨blk, e⟩ := Option.ne_none_iff_exists'.1 hne
            obtain ⟨_, _, _, q3⟩ := hH p.1 p.2 blk e
            intro e2
            rw [hf] at q3
            simp only at q3
            rw [e2] at q3
            simp [rnB] at q3
          rw [hx this]
          show _ = gv (f p).1 (f p).2
          rw [hf]
        · split at hy
          · rename_i xs hH'
            cases hy
            have := hx (by rw [hH']; simp)
            subst this
            exact .c (hc _ _ (hs.live i u _ hH'))
          · cases hy
      | @ptr i u off x hv hx =>
        intro y hy
        simp only [rnA] at hy
        split at hy
        · rename_i p hp
          cases hy
          obtain ⟨k, q1, q2⟩ := rnm_some hp
          refine .ptr (by rw [hN]; exact hlt2 k p q1) (fun hne => ?_)
          have hf : f p = (i, u) := oldName_get hnd q1 q2
          have : s.H i u ≠ none := by
            obtain ⟨blk, e⟩ := Option.ne_none_iff_exists'.1 hne
            obtain ⟨_, _, _, q3⟩ := hH p.1 p.2 blk e
            intro e2
            rw [hf] at q3
            simp only at q3
            rw [e2] at q3
            simp [rnB] at q3
          show ∃ b, blkOf (gv (f p).1 (f p).2) = some b ∧ _
          rw [hf]
          exact hx this
        · cases hy
      | @eptr i u sz j1 j2 x hv hx =>
        intro y hy
        simp only [rnA] at hy
        split at hy
        · rename_i p hp
          cases hy
          obtain ⟨k, q1, q2⟩ := rnm_some hp
          refine .eptr (by rw [hN]; exact hlt2 k p q1) (fun hne => ?_)
          have hf : f p = (i, u) := oldName_get hnd q1 q2
          have : s.H i u ≠ none := by
            obtain ⟨blk, e⟩ := Option.ne_none_iff_exists'.1 hne
            obtain ⟨_, _, _, q3⟩ := hH p.1 p.2 blk e
            intro e2
            rw [hf] at q3
            simp only at q3
            rw [e2] at q3
            simp [rnB] at q3
          show ∃ b, blkOf (gv (f p).1 (f p).2) = some b ∧ _
          rw [hf]
          exact hx this
        · cases hy
      | @fn f' caps vs hn hv ih =>
        intro y hy
        simp only [rnA] at hy
        split at hy
        · rename_i l hl'
          cases hy
          have key : ∀ (caps l : List A), rnAs s ns ren caps = some l → l.length = caps.length ∧ ∀ m, m < caps.length → rnA s ns ren (caps.getD m .any) = some (l.getD m .any) := by
            intro caps
            induction caps with
            | nil => intro l h; simp [rnAs] at h; subst h; exact ⟨rfl, fun m hm => by simp at hm⟩
            | cons c caps ih =>
              intro l h
              simp only [rnAs] at h
              split at h
              · rename_i y ys h1 h2
                cases h
                obtain ⟨r1, r2⟩ := ih ys h2
                refine ⟨by simp [r1], fun m hm => ?_⟩
                cases m with
                | zero => exact h1
                | succ m => simpa using r2 m (by simpa using hm)
              · cases h
          obtain ⟨r1, r2⟩ := key caps l hl'
          exact .fn (by rw [hn, r1]) (fun m hm => ih m (by omega) _ (r2 m (by omega)))
        · cases hy
      | any => intro y hy; simp [rnA] at hy; subst hy; exact .any
    have hAs : ∀ (xs : List A) (vs : List Value), RepAs B w s gv xs vs → ∀ ys, rnAs s ns ren xs = some ys → RepAs B w s' gv' ys vs := by
      intro xs
      induction xs with
      | nil => intro vs h ys hy; simp [rnAs] at hy; subst hy; exact ⟨h.1, fun m hm => by simp at hm⟩
      | cons x xs ih =>
        intro vs h ys hy
        simp only [rnAs] at hy
        split at hy
        · rename_i y ys' h1 h2
          cases hy
          cases vs with
          | nil => have := h.1; simp at this
          | cons v vs =>
            obtain ⟨r1, r2⟩ := ih vs ⟨by simpa using h.1, fun m hm => by simpa using h.2 (m + 1) (by simpa using hm)⟩ ys' h2
            refine ⟨by simp [r1], fun m hm => ?_⟩
            cases m with
            | zero => exact hA x v (h.2 0 (by simp)) y h1
            | succ m => simpa using r2 m (by simpa using hm)
        · cases hy
    refine ⟨gv', ⟨hs.above, hs.defers, hs.size, hs.below, fun i v hi => ?_, fun i v blk hb => ?_, fun i v i' v' b h1 h2 h3 h4 => ?_, fun i => ?_⟩, ⟨hK.size, fun b hlt hb => hokb b (hK.ok b hlt hb), hK.heap, fun h => by
      show w0.os.N h ≤ 2
      have := hos h
      omega, fun i v hv hi => ?_⟩⟩
    · obtain ⟨blk, e⟩ := Option.ne_none_iff_exists'.1 hi
      obtain ⟨k, q1, _, _⟩ := hH i v blk e
      show v < 2
      exact hlt2 k _ q1
    · obtain ⟨k, q1, q2, q3⟩ := hH i v blk hb
      unfold rnB at q3
      split at q3
      · rename_i cells e
        split at q3
        · rename_i ys hy
          cases q3
          obtain ⟨b, vals, T', e1, e2, e3, e4⟩ := hs.live _ _ _ e
          exact ⟨b, vals, T', e1, e2, e3, hAs _ _ e4 _ hy⟩
        · cases q3
      · rename_i E sz xs e
        cases q3
        obtain ⟨vals, e1, e2, e3, e4⟩ := hs.live _ _ _ e
        exact ⟨vals, e1, e2, e3, e4.mono (fun b _ hb => hokb b hb) (Nat.le_refl _) (fun _ _ _ => rfl)⟩
      · rename_i agg ks vs e
        cases q3
        obtain ⟨b, ents, clock, vals, e1, e2, e3, e4⟩ := hs.live _ _ _ e
        exact ⟨b, ents, clock, vals, e1, e2, e3, fun i j hi hj => hc _ _ (e4 i j hi hj)⟩
      · rename_i agg ks vs done e
        cases q3
        obtain ⟨r, mo, since, last, seen, e1, e2, e3, e4⟩ := hs.live _ _ _ e
        exact ⟨r, mo, since, last, seen, e1, e2, e3, e4.mono (fun b _ hb => hokb b hb) (Nat.le_refl _) (fun _ _ _ => rfl)⟩
      · cases q3
    · obtain ⟨blk, e, _⟩ := h1.ex
      obtain ⟨blk', e', _⟩ := h2.ex
      obtain ⟨k, q1, q2, _⟩ := hH i v blk e
      obtain ⟨k', q1', q2', _⟩ := hH i' v' blk' e'
      obtain ⟨e1, e2⟩ := hs.inj _ _ _ _ b (hOw i v h1) (hOw i' v' h2) h3 h4
      have hff : f (i, v) = f (i', v') := Prod.ext e1 e2
      rw [hff] at q2
      have hkk : k = k' := nodup_get hnr q2 q2'
      subst hkk
      rw [q1] at q1'
      cases q1'
      exact ⟨rfl, rfl⟩
    · -- slots
      show RepAV B w s' gv' (lkT T i) _
      have key : ∀ (sig : List Nat) (T : List (Nat × AV)), rnT s ns ren sig = some T → RepAV B w s' gv' (lkT T i) (a.tmps.getD i Go.undef) := by
        intro sig
        induction sig with
        | nil => intro T h; simp [rnT] at h; subst h; exact .undef
        | cons t sig ih =>
          intro T h
          simp only [rnT] at h
          split at h
          · rename_i v l h1 h2
            cases h
            simp only [lkT, nbeq]
            by_cases hit : i = t
            · subst hit
              simp only [decide_true, cond_true]
              have hv := hs.tmps i
              generalize s.t i = av at hv h1
              generalize a.tmps.getD i Go.undef = u at hv
              cases hv with
              | one h =>
                simp only [rnV] at h1
                split at h1
                · rename_i y hy; cases h1; exact .one (hA _ _ h _ hy)
                · cases h1
              | agg h =>
                simp only [rnV] at h1
                split at h1
                · rename_i y hy; cases h1; exact .agg (hAs _ _ h _ hy)
                · cases h1
              | tup _ _ => simp [rnV] at h1; subst h1; exact .undef
              | undef => simp [rnV] at h1; subst h1; exact .undef
            · simp only [hit, decide_false, cond_false]
              exact ih l h2
          · cases h
      exact key sig T hT
    · -- what was there at first
      have hv0 : v = 0 := by have := hos i; omega
      subst hv0
      obtain ⟨blk, e⟩ := Option.ne_none_iff_exists'.1 hi
      obtain ⟨k, q1, q2, q3⟩ := hH i 0 blk e
      rcases namesOk_get g1.2 q1 q2 with h | ⟨_, h⟩
      · simp at h
      · have hne : s.H i 0 ≠ none := by
          intro e2
          rw [← h] at q3
          simp only at q3
          rw [e2] at q3
          simp [rnB] at q3
        obtain ⟨r1, r2⟩ := hK.old i 0 hv hne
        refine ⟨r1, ?_⟩
        show gv (f (i, 0)).1 (f (i, 0)).2 = _
        rw [← h]
        exact r2
  · cases h
end
end Go.AV
namespace Go.AV
open Go.RowKit
section
variable {B : Nat → Prop} {nt : Nat} {w0 : Base} {w : World} {s s' : AS} {a : Act} {gv : GV} {P : Program} {J Y : Type} [InvC P B w0]
def loopN (B : Nat → Prop) (nt : Nat) (w0 : Base) (P : Program) : Nat → Code → (Exit → AS → Prop) → AS → Prop
  | 0, _, _, _ => False
  | n + 1, c, Q, s => AWp B nt w0 P c (thenA (loopN B nt w0 P n c Q) Q) s
theorem thenA_mono {M M' : AS → Prop} {Q Q' : Exit → AS → Prop} (hM : ∀ s, M s → M' s) (hQ : ∀ e s, Q e s → Q' e s) : ∀ e s, thenA M Q e s → thenA M' Q' e s := by
  intro e s h
  cases e with
  | normal => exact hM s h
  | _ => exact hQ _ s h
theorem loopN_mono {c : Code} {Q Q' : Exit → AS → Prop} (hQ : ∀ e s, Q e s → Q' e s) : ∀ (n m : Nat) (s : AS), n ≤ m → loopN B nt w0 P n c Q s → loopN B nt w0 P m c Q' s := by
  intro n
  induction n with
  | zero => intro m s _ h; exact h.elim
  | succ n ih =>
    intro m s hm h
    cases m with
    | zero => omega
    | succ m => exact awp_mono h (thenA_mono (fun s h => ih m s (by omega) h) hQ)
theorem awp_loopN {c : Code} {Q : Exit → AS → Prop} {n : Nat} (h : loopN B nt w0 P n c Q s) : AWp B nt w0 P (.loop c) Q s := by
  intro a w hs
  refine wp_loop_rounds n ?_
  induction n generalizing s a w with
  | zero => exact h.elim
  | succ n ih =>
    refine wp_mono (h a w hs) ?_
    rintro e a' w' ⟨s', h1, h2⟩
    cases e with
    | normal => exact ih h1 a' w' h2
    | _ => exact ⟨s', h1, h2⟩
theorem awp_refB {c : Code} {Q : Exit → AS → Prop} (h : RefB B nt w0 s s') (h2 : AWp B nt w0 P c Q s') : AWp B nt w0 P c Q s := fun a w hs => h2 a w (h a w hs)
theorem loopN_refB {c : Code} {Q : Exit → AS → Prop} {n : Nat} (h : RefB B nt w0 s s') (h2 : loopN B nt w0 P n c Q s') : loopN B nt w0 P n c Q s := by
  cases n with
  | zero => exact h2.elim
  | succ n => exact awp_refB h h2
def posA (B : Nat → Prop) (nt : Nat) (w0 : Base) (P : Program) (n : Nat) (body : Code) (Qr : Exit → AS → Prop) : List Nat → Option (Code × (Exit → AS → Prop))
  | [] => some (body, Qr)
  | i :: p => match posA B nt w0 P n body Qr p with
    | some (.seq x y, Q) => match i with
      | 0 => some (x, thenA (AWp B nt w0 P y Q) Q)
      | 1 => some (y, Q)
      | _ => none
    | some (.cond _ x y, Q) => match i with
      | 0 => some (x, Q)
      | 1 => some (y, Q)
      | _ => none
    | some (.block id x, Q) => match i with
      | 0 => some (x, inBlockA id Q)
      | _ => none
    | some (.loop x, Q) => match i with
      | 0 => some (x, thenA (loopN B nt w0 P n x Q) Q)
      | _ => none
    | _ => none
theorem posA_mono {body : Code} {Qr : Exit → AS → Prop} {n m : Nat} (hnm : n ≤ m) : ∀ (p : List Nat) (c : Code) (Q : Exit → AS → Prop), posA B nt w0 P n body Qr p = some (c, Q) → ∃ Q', posA B nt w0 P m body Qr p = some (c, Q') ∧ ∀ e s, Q e s → Q' e s := by
  intro p
  induction p with
  | nil => intro c Q h; simp only [posA, Option.some.injEq, Prod.mk.injEq] at h; obtain ⟨rfl, rfl⟩ := h; exact ⟨Qr, rfl, fun _ _ h => h⟩
  | cons i p ih =>
    intro c Q h
    simp only [posA] at h ⊢
    split at h
    · rename_i x y Q0 e
      obtain ⟨Q1, e1, h1⟩ := ih _ _ e
      rw [e1]
      simp only
      split at h
      · cases h; exact ⟨_, rfl, thenA_mono (fun s h => awp_mono h h1) h1⟩
      · cases h; exact ⟨_, rfl, h1⟩
      · cases h
    · rename_i x y Q0 e
      obtain ⟨Q1, e1, h1⟩ := ih _ _ e
      rw [e1]
      simp only
      split at h
      · cases h; exact ⟨_, rfl, h1⟩
      · cases h; exact ⟨_, rfl, h1⟩
      · cases h
    · rename_i x Q0 e
      obtain ⟨Q1, e1, h1⟩ := ih _ _ e
      rw [e1]
      simp only
      split at h
      · cases h
        refine ⟨_, rfl, fun e s h => ?_⟩
        cases e with
        | exit i => simp only [inBlockA] at h ⊢; split <;> rename_i hi <;> simp only [hi, if_true, if_false] at h <;> exact h1 _ _ h
        | _ => exact h1 _ _ h
      · cases h
    · rename_i x Q0 e
      obtain ⟨Q1, e1, h1⟩ := ih _ _ e
      rw [e1]
      simp only
      split at h
      · cases h; exact ⟨_, rfl, thenA_mono (fun s h => loopN_mono h1 n m s hnm h) h1⟩
      · cases h
    · cases h
def EntA (B : Nat → Prop) (nt : Nat) (w0 : Base) (P : Program) (n : Nat) (c : Code) (Q : Exit → AS → Prop) (s : AS) : Prop :=
  match c with
  | .loop x => loopN B nt w0 P n x Q s
  | c => AWp B nt w0 P c Q s
theorem EntA.awp {n : Nat} {c : Code} {Q : Exit → AS → Prop} (h : EntA B nt w0 P n c Q s) : AWp B nt w0 P c Q s := by
  unfold EntA at h
  split at h
  · exact awp_loopN h
  · exact h
def KOf (L : J → Prop) (y : Y) : J ⊕ Y → Prop
  | .inl j => L j
  | .inr y' => y' = y
theorem meet_ok {cx : Cx J Y} {p : List Nat} {K : KC P J Y} {KK : J ⊕ Y → Prop} (hos : ∀ h, w0.os.N h ≤ 1) {c : Cert P J Y} {es : ES} (h : meet cx p K c es) (hr : Runs c KK) :
    (∃ j es', RefB B nt w0 es.den es' ∧ es' = (cx.snap j).es.den ∧ cx.path j = p ∧ KK (.inl j)) ∨ ∃ c' es', K c' es' ∧ Runs c' KK ∧ RefB B nt w0 es.den es'.den := by
  unfold meet at h
  split at h
  · rename_i j0 e0
    cases he0 : eqL (cx.path j0) p with
    | true =>
      rw [he0] at h
      obtain ⟨c', es', h1, h2, h3⟩ := pre_ok (B := B) (nt := nt) (w0 := w0) c es h hr
      split at h1
      · rename_i j ren
        obtain ⟨g1, g2⟩ := gd_elim h1
        exact .inl ⟨j, _, h3.trans (proj_ok g2 hos), rfl, eqL_eq g1, h2⟩
      · exact h1.elim
    | false =>
      rw [he0] at h
      exact .inr ⟨_, _, h, hr, RefB.refl⟩
  · exact .inr ⟨_, _, h, hr, RefB.refl⟩
section
variable {cx : Cx J Y} {body : Code} {Qr : Exit → AS → Prop} {n : Nat} {L : J → Prop} {y0 : Y}
theorem execC_ok (hm : P.follows .mixedOrders = true) (hos : ∀ h, w0.os.N h ≤ 1) (H : ∀ j, L j → ∀ c Q, posA B cx.nt w0 P n body Qr (cx.path j) = some (c, Q) → EntA B cx.nt w0 P n c Q (cx.snap j).es.den) :
    ∀ (c : Code) (p : List Nat) (Qc : QC P J Y) (Qa : Exit → AS → Prop) (cert : Cert P J Y) (es : ES), posA B cx.nt w0 P n body Qr p = some (c, Qa) → execC P cx c p Qc cert es → Runs cert (KOf L y0) →
      (∀ e c' es', Qc e c' es' → Runs c' (KOf L y0) → Qa e es'.den) → AWp B cx.nt w0 P c Qa es.den := by
  intro c
  induction c with
  | skip => intro p Qc Qa cert es _ h hr hq; exact awp_skip (hq _ _ _ h hr)
  | exit i => intro p Qc Qa cert es _ h hr hq; exact awp_exit (hq _ _ _ h hr)
  | ret => intro p Qc Qa cert es _ h hr hq; exact awp_ret (hq _ _ _ h hr)
  | seq x y ihx ihy =>
    intro p Qc Qa cert es hp h hr hq
    refine awp_seq (ihx (0 :: p) _ _ cert es (by simp only [posA, hp]) h hr fun e c' es' he hr' => ?_)
    cases e with
    | normal =>
      have hp1 : posA B cx.nt w0 P n body Qr (1 :: p) = some (y, Qa) := by simp only [posA, hp]
      show AWp B cx.nt w0 P y Qa es'.den
      rcases meet_ok (B := B) (nt := cx.nt) (w0 := w0) hos he hr' with ⟨j, s2, g1, rfl, g3, g4⟩ | ⟨c2, es2, g1, g2, g3⟩
      · exact awp_refB g1 (H j g4 y Qa (by rw [g3]; exact hp1)).awp
      · exact awp_refB g3 (ihy (1 :: p) Qc Qa c2 es2 hp1 g1 g2 hq)
    | _ => exact hq _ _ _ he hr'
  | cond x a b iha ihb =>
    intro p Qc Qa cert es hp h hr hq
    have h1 : asksX x (condC x (execC P cx a (0 :: p) Qc) (execC P cx b (1 :: p) Qc)) cert es := h
    have hb : ∃ c2 es2, condC x (execC P cx a (0 :: p) Qc) (execC P cx b (1 :: p) Qc) c2 es2 ∧ Runs c2 (KOf L y0) ∧ es2.den = es.den := by
      unfold asksX at h1
      cases x with
      | tmp t => exact branch_ok h1 hr
      | _ => exact ⟨_, _, h1, hr, rfl⟩
    obtain ⟨c2, es2, g1, g2, g3⟩ := hb
    rw [← g3]
    unfold condC at g1
    split at g1
    · rename_i e
      exact awp_cond true e (fun _ => iha (0 :: p) Qc Qa c2 es2 (by simp only [posA, hp]) g1 g2 hq) (fun e => (by cases e))
    · rename_i e
      exact awp_cond false e (fun e => (by cases e)) (fun _ => ihb (1 :: p) Qc Qa c2 es2 (by simp only [posA, hp]) g1 g2 hq)
    · exact g1.elim
  | block i x ih =>
    intro p Qc Qa cert es hp h hr hq
    refine awp_block (ih (0 :: p) _ _ cert es (by simp only [posA, hp]) h hr fun e c' es' he hr' => ?_)
    cases e with
    | exit j =>
      simp only [inBlockC, nbeq] at he
      simp only [inBlockA]
      by_cases hji : j = i
      · simp only [hji, decide_true, cond_true] at he
        rw [if_pos hji]
        exact hq _ _ _ he hr'
      · simp only [hji, decide_false, cond_false] at he
        rw [if_neg hji]
        exact hq _ _ _ he hr'
    | _ => exact hq _ _ _ he hr'
  | loop x ih =>
    intro p Qc Qa cert es hp h hr hq
    rcases meet_ok (B := B) (nt := cx.nt) (w0 := w0) hos h hr with ⟨j, s2, g1, rfl, g3, g4⟩ | ⟨c2, es2, g1, _⟩
    · exact awp_refB g1 (H j g4 _ Qa (by rw [g3]; exact hp)).awp
    · exact g1.elim
  | region id ops draw =>
    intro p Qc Qa cert es hp h hr hq
    obtain ⟨c1, es1, h1, h2, h3⟩ := regF_ok (B := B) (nt := cx.nt) (w0 := w0) cert es h hr
    exact awp_refB h3 (region_ok hm h1 h2 (hq .normal))
  | _ => intro p Qc Qa cert es _ h; exact h.elim
theorem posC_ok (hm : P.follows .mixedOrders = true) (hos : ∀ h, w0.os.N h ≤ 1) (H : ∀ j, L j → ∀ c Q, posA B cx.nt w0 P n body Qr (cx.path j) = some (c, Q) → EntA B cx.nt w0 P n c Q (cx.snap j).es.den)
    (htop : ∀ e c' es', topC P cx e c' es' → Runs c' (KOf L y0) → Qr e es'.den) : ∀ (p : List Nat) (c : Code) (Qc : QC P J Y), posC P cx body p = some (c, Qc) →
      ∃ Qa, posA B cx.nt w0 P n body Qr p = some (c, Qa) ∧ ∀ e c' es', Qc e c' es' → Runs c' (KOf L y0) → Qa e es'.den := by
  intro p
  induction p with
  | nil => intro c Qc h; simp only [posC, Option.some.injEq, Prod.mk.injEq] at h; obtain ⟨rfl, rfl⟩ := h; exact ⟨Qr, rfl, htop⟩
  | cons i p ih =>
    intro c Qc h
    simp only [posC] at h
    simp only [posA]
    split at h
    · rename_i x y Q0 e
      obtain ⟨Qa, e1, h1⟩ := ih _ _ e
      rw [e1]
      simp only
      split at h
      · cases h
        refine ⟨_, rfl, fun e c' es' he hr => ?_⟩
        cases e with
        | normal =>
          have hp1 : posA B cx.nt w0 P n body Qr (1 :: p) = some (y, Qa) := by simp only [posA, e1]
          show AWp B cx.nt w0 P y Qa es'.den
          rcases meet_ok (B := B) (nt := cx.nt) (w0 := w0) hos he hr with ⟨j, s2, g1, rfl, g3, g4⟩ | ⟨c2, es2, g1, g2, g3⟩
          · exact awp_refB g1 (H j g4 y Qa (by rw [g3]; exact hp1)).awp
          · exact awp_refB g3 (execC_ok hm hos H y (1 :: p) Q0 Qa c2 es2 hp1 g1 g2 h1)
        | _ => exact h1 _ _ _ he hr
      · cases h; exact ⟨_, rfl, h1⟩
      · cases h
    · rename_i x y Q0 e
      obtain ⟨Qa, e1, h1⟩ := ih _ _ e
      rw [e1]
      simp only
      split at h
      · cases h; exact ⟨_, rfl, h1⟩
      · cases h; exact ⟨_, rfl, h1⟩
      · cases h
    · rename_i id x Q0 e
      obtain ⟨Qa, e1, h1⟩ := ih _ _ e
      rw [e1]
      simp only
      split at h
      · cases h
        refine ⟨_, rfl, fun e c' es' he hr => ?_⟩
        cases e with
        | exit j =>
          simp only [inBlockC, nbeq] at he
          simp only [inBlockA]
          by_cases hji : j = id
          · simp only [hji, decide_true, cond_true] at he
            rw [if_pos hji]
            exact h1 _ _ _ he hr
          · simp only [hji, decide_false, cond_false] at he
            rw [if_neg hji]
            exact h1 _ _ _ he hr
        | _ => exact h1 _ _ _ he hr
      · cases h
    · rename_i x Q0 e
      obtain ⟨Qa, e1, h1⟩ := ih _ _ e
      rw [e1]
      simp only
      split at h
      · cases h
        refine ⟨_, rfl, fun e c' es' he hr => ?_⟩
        cases e with
        | normal =>
          show loopN B cx.nt w0 P n c Qa es'.den
          have he' : meet cx p (fun _ _ => False) c' es' := he
          rcases meet_ok (B := B) (nt := cx.nt) (w0 := w0) hos he' hr with ⟨j, s2, g1, rfl, g3, g4⟩ | ⟨c2, es2, g1, _⟩
          · exact loopN_refB g1 (H j g4 (.loop c) Qa (by rw [g3]; exact e1))
          · exact g1.elim
        | _ => exact h1 _ _ _ he hr
      · cases h
    · cases h
end
theorem runs_mono {K K' : J ⊕ Y → Prop} (hk : ∀ l, K l → K' l) : ∀ c : Cert P J Y, Runs c K → Runs c K' := by
  intro c
  induction c with
  | ret => exact hk _
  | jump => exact hk _
  | ite t b c d ih1 ih2 => intro h; simp only [Runs] at h ⊢; split <;> rename_i hb <;> simp only [hb, if_true, if_false] at h; exact ih1 h; exact ih2 h
  | elem _ _ _ _ ih => rintro ⟨h0, h1, h⟩; exact ⟨h0, h1, ih _ h⟩
  | idx _ _ _ _ ih => rintro ⟨h0, h1, h⟩; exact ⟨h0, h1, ih h⟩
  | eget _ _ _ _ ih => rintro ⟨h1, h⟩; exact ⟨h1, ih _ h⟩
  | eset _ _ _ _ _ ih => rintro ⟨h1, h⟩; exact ⟨h1, ih h⟩
  | byte _ _ _ ih => rintro ⟨h0, h1, h⟩; exact ⟨h0, h1, ih h⟩
  | len _ _ _ ih => exact ih
  | app _ _ _ _ _ ih => rintro ⟨h1, h⟩; exact ⟨h1, ih h⟩
  | cut _ _ _ _ _ ih => rintro ⟨h1, h⟩; exact ⟨h1, ih h⟩
  | cat _ _ _ ih => rintro ⟨h1, h⟩; exact ⟨h1, ih h⟩
  | bld _ _ _ ih => exact ih
  | mks _ _ _ ih => rintro ⟨h1, h⟩; exact ⟨h1, ih h⟩
  | unby _ _ ih => exact ih
  | shf _ _ ih => rintro ⟨h1, h⟩; exact ⟨h1, ih h⟩
  | dvd _ _ ih => rintro ⟨h1, h⟩; exact ⟨h1, ih h⟩
  | mput _ _ _ _ _ _ ih => exact ih
  | mget _ _ _ _ _ _ ih => rintro ⟨h1, h⟩; exact ⟨h1, ih h⟩
  | nilt _ _ _ ih => intro h b hb; exact ih b (h b hb)
  | call _ _ _ ih => rintro ⟨y, h1, h⟩; exact ⟨y, h1, ih y h⟩
  | adoptT _ _ _ _ ih => exact ih
  | adoptB _ _ _ _ _ _ ih => exact ih
  | frz _ _ _ ih => exact ih
  | frzo _ _ _ _ ih => exact ih
  | sp S _ ih => intro h b hb; exact ih b (h b hb)
theorem runs_ex {K : Nat → J ⊕ Y → Prop} (hk : ∀ n m l, n ≤ m → K n l → K m l) : ∀ c : Cert P J Y, Runs c (fun l => ∃ n, K n l) → ∃ n, Runs c (K n) := by
  intro c
  induction c with
  | ret => exact id
  | jump => exact id
  | ite t b c d ih1 ih2 =>
    intro h
    simp only [Runs] at h ⊢
    by_cases hb : b = true
    · simp only [hb, if_true] at h ⊢; exact ih1 h
    · simp only [hb, if_false] at h ⊢; exact ih2 h
  | elem _ _ _ _ ih => rintro ⟨h0, h1, h⟩; obtain ⟨n, h⟩ := ih _ h; exact ⟨n, h0, h1, h⟩
  | idx _ _ _ _ ih => rintro ⟨h0, h1, h⟩; obtain ⟨n, h⟩ := ih h; exact ⟨n, h0, h1, h⟩
  | eget _ _ _ _ ih => rintro ⟨h1, h⟩; obtain ⟨n, h⟩ := ih _ h; exact ⟨n, h1, h⟩
  | eset _ _ _ _ _ ih => rintro ⟨h1, h⟩; obtain ⟨n, h⟩ := ih h; exact ⟨n, h1, h⟩
  | byte _ _ _ ih => rintro ⟨h0, h1, h⟩; obtain ⟨n, h⟩ := ih h; exact ⟨n, h0, h1, h⟩
  | len _ _ _ ih => exact ih
  | app _ _ _ _ _ ih => rintro ⟨h1, h⟩; obtain ⟨n, h⟩ := ih h; exact ⟨n, h1, h⟩
  | cut _ _ _ _ _ ih => rintro ⟨h1, h⟩; obtain ⟨n, h⟩ := ih h; exact ⟨n, h1, h⟩
  | cat _ _ _ ih => rintro ⟨h1, h⟩; obtain ⟨n, h⟩ := ih h; exact ⟨n, h1, h⟩
  | bld _ _ _ ih => exact ih
  | mks _ _ _ ih => rintro ⟨h1, h⟩; obtain ⟨n, h⟩ := ih h; exact ⟨n, h1, h⟩
  | unby _ _ ih => exact ih
  | shf _ _ ih => rintro ⟨h1, h⟩; obtain ⟨n, h⟩ := ih h; exact ⟨n, h1, h⟩
  | dvd _ _ ih => rintro ⟨h1, h⟩; obtain ⟨n, h⟩ := ih h; exact ⟨n, h1, h⟩
  | mput _ _ _ _ _ _ ih => exact ih
  | mget _ _ _ _ _ _ ih => rintro ⟨h1, h⟩; obtain ⟨n, h⟩ := ih h; exact ⟨n, h1, h⟩
  | nilt _ xs _ ih =>
    intro h
    by_cases hx : xs ≠ []
    · obtain ⟨n, h⟩ := ih false (h false (fun _ => rfl))
      exact ⟨n, fun b hb => by rw [hb hx]; exact h⟩
    · obtain ⟨n, h1⟩ := ih false (h false (fun _ => rfl))
      obtain ⟨m, h2⟩ := ih true (h true (fun hh => absurd hh hx))
      refine ⟨max n m, fun b _ => ?_⟩
      cases b with
      | false => exact runs_mono (fun l hl => hk n _ l (by omega) hl) _ h1
      | true => exact runs_mono (fun l hl => hk m _ l (by omega) hl) _ h2
  | call _ _ _ ih => rintro ⟨y, h1, h⟩; obtain ⟨n, h⟩ := ih y h; exact ⟨n, y, h1, h⟩
  | adoptT _ _ _ _ ih => exact ih
  | adoptB _ _ _ _ _ _ ih => exact ih
  | frz _ _ _ ih => exact ih
  | frzo _ _ _ _ ih => exact ih
  | sp S k ih =>
    intro h
    have key : ∀ l : List S.B, (∀ b ∈ l, Runs (k b) (fun l => ∃ n, K n l)) → ∃ n, ∀ b ∈ l, Runs (k b) (K n) := by
      intro l
      induction l with
      | nil => intro _; exact ⟨0, fun b hb => by simp at hb⟩
      | cons x l ihl =>
        intro h
        obtain ⟨n, hn⟩ := ihl (fun b hb => h b (by simp [hb]))
        obtain ⟨m, hm⟩ := ih x (h x (by simp))
        refine ⟨max n m, fun b hb => ?_⟩
        rcases List.mem_cons.1 hb with rfl | hb
        · exact runs_mono (fun l hl => hk m _ l (by omega) hl) _ hm
        · exact runs_mono (fun l hl => hk n _ l (by omega) hl) _ (hn b hb)
    exact key S.poss h
def EvN (cert : J → Cert P J Y) : Nat → J → Y → Prop
  | 0, _, _ => False
  | n + 1, j, y => Runs (cert j) (KOf (fun j => EvN cert n j y) y)
def Ev (cert : J → Cert P J Y) (j : J) (y : Y) : Prop := ∃ n, EvN cert n j y
theorem evN_mono {cert : J → Cert P J Y} {y : Y} : ∀ (n m : Nat) (j : J), n ≤ m → EvN cert n j y → EvN cert m j y := by
  intro n
  induction n with
  | zero => intro m j _ h; exact h.elim
  | succ n ih =>
    intro m j hm h
    cases m with
    | zero => omega
    | succ m =>
      refine runs_mono (fun l hl => ?_) _ h
      cases l with
      | inl j' => exact ih m j' (by omega) hl
      | inr y' => exact hl
theorem evEx {cert : J → Cert P J Y} {y : Y} {c : Cert P J Y} (h : Runs c (KOf (fun j => Ev cert j y) y)) : ∃ n, Runs c (KOf (fun j => EvN cert n j y) y) := by
  refine runs_ex (K := fun n => KOf (fun j => EvN cert n j y) y) (fun n m l hnm hl => ?_) c (runs_mono (fun l hl => ?_) c h)
  · cases l with
    | inl j => exact evN_mono n m j hnm hl
    | inr y' => exact hl
  · cases l with
    | inl j => exact hl
    | inr y' => exact ⟨0, hl⟩
theorem Ev.intro {cert : J → Cert P J Y} {j : J} {y : Y} (h : Runs (cert j) (KOf (fun j => Ev cert j y) y)) : Ev cert j y := by
  obtain ⟨n, h⟩ := evEx h
  exact ⟨n + 1, h⟩
def esT (i : Nat) : List AV → List (Nat × AV)
  | [] => []
  | v :: vs => (i, v) :: esT (i + 1) vs
def esH (i : Nat) : List Blk → List ((Nat × Nat) × Option Blk)
  | [] => []
  | b :: bs => ((i, 0), some b) :: esH (i + 1) bs
def ES.init (args : List GArg) : ES := ⟨esT 0 (avsA 0 args), esH 0 (blksA 0 args), [], 1⟩
theorem lkT_esT : ∀ (l : List AV) (i k : Nat), i ≤ k → lkT (esT i l) k = l.getD (k - i) .undef := by
  intro l
  induction l with
  | nil => intro i k _; simp [esT, lkT]
  | cons v l ih =>
    intro i k h
    simp only [esT, lkT, nbeq]
    by_cases e : k = i
    · subst e; simp
    · simp only [e, decide_false, cond_false]
      rw [ih (i + 1) k (by omega), show k - i = (k - (i + 1)) + 1 by omega, List.getD_cons_succ]
theorem lkH_esH : ∀ (l : List Blk) (i k v : Nat), i ≤ k → lkH (esH i l) k v = if v = 0 then l[k - i]? else none := by
  intro l
  induction l with
  | nil => intro i k v _; simp [esH, lkH]
  | cons b l ih =>
    intro i k v h
    simp only [esH, lkH, nbeq]
    by_cases e : k = i
    · subst e
      by_cases e2 : v = 0
      · subst e2; simp
      · simp only [e2, decide_false, Bool.and_false, cond_false, if_false]
        have : ∀ (l : List Blk) (i : Nat), lkH (esH i l) k v = none := by
          intro l
          induction l with
          | nil => intro i; rfl
          | cons b l ih => intro i; simp only [esH, lkH, nbeq, e2, decide_false, Bool.and_false, cond_false]; exact ih _
        exact this l _
    · simp only [e, decide_false, Bool.false_and, cond_false]
      rw [ih (i + 1) k v (by omega), show k - i = (k - (i + 1)) + 1 by omega, List.getElem?_cons_succ]
theorem den_init (args : List GArg) : (ES.init args).den = AS.initG args := by
  simp only [ES.init, ES.den, AS.initG, AS.mk.injEq]
  refine ⟨?_, ?_, ?_⟩
  · funext i; rw [lkT_esT _ 0 i (by omega)]; rfl
  · funext h v; rw [lkH_esH _ 0 h v (by omega)]; rfl
  · funext i; rfl
theorem outRs_ok {s : AS} : ∀ {xs : List A} {rs : List R}, s.outRs xs rs = some rs → retCs s xs rs := by
  have one : ∀ (x : A) (r r' : R), s.outR x r = some r' → retC s x r' := by
    intro x r r' h
    unfold AS.outR at h
    split at h
    · cases h; rfl
    · cases h; rfl
    · cases h; rfl
    · rename_i i v E sz ys
      split at h
      · rename_i E' sz' xs' hH
        obtain ⟨h1, h2⟩ := bo_some h
        cases h2
        simp only [Bool.and_eq_true] at h1
        have e1 := Nat.eq_of_beq_eq_true h1.1
        have e2 := Nat.eq_of_beq_eq_true h1.2
        subst e1 e2
        exact hH
      · cases h
    · split at h
      · rename_i hH; cases h; exact .inl ⟨_, _, _, hH, rfl⟩
      · rename_i hH; cases h; exact .inr ⟨_, hH, rfl⟩
      · cases h
    · cases h
  have key : ∀ (xs : List A) (rs rs' : List R), s.outRs xs rs = some rs' → retCs s xs rs' := by
    intro xs
    induction xs with
    | nil => intro rs rs' h; cases rs with
      | nil => simp [AS.outRs] at h; subst h; trivial
      | cons => simp [AS.outRs] at h
    | cons x xs ih =>
      intro rs rs' h
      cases rs with
      | nil => simp [AS.outRs] at h
      | cons r rs =>
        simp only [AS.outRs] at h
        split at h
        · rename_i y ys h1 h2
          cases h
          exact ⟨one x r y h1, ih rs ys h2⟩
        · cases h
  intro xs rs h
  exact key xs rs rs h
theorem cellsSmall_ok : ∀ {rvs : List ResultVar}, cellsSmall P rvs = true → ∀ p t, ResultVar.cell p t ∈ rvs → ∀ ti, tiOf P t = some ti → ti.agg = false → ti.size = 1 := by
  intro rvs
  induction rvs with
  | nil => intro _ p t h; simp at h
  | cons r rvs ih =>
    intro h p t hm ti ht ha
    cases r with
    | tmp x =>
      rcases List.mem_cons.1 hm with e | hm
      · cases e
      · exact ih h p t hm ti ht ha
    | cell q u =>
      simp only [cellsSmall, Bool.and_eq_true] at h
      rcases List.mem_cons.1 hm with e | hm
      · cases e
        rw [ht] at h
        simp only [Bool.or_eq_true] at h
        rcases h.1 with h | h
        · rw [ha] at h; cases h
        · exact Nat.eq_of_beq_eq_true h
      · exact ih h.2 p t hm ti ht ha
theorem lensEq_ok : ∀ {xs : List (List A)} {rs : List (List R)}, lensEq xs rs = true → xs.map List.length = rs.map List.length := by
  intro xs
  induction xs with
  | nil => intro rs h; cases rs with
    | nil => rfl
    | cons => cases h
  | cons x xs ih => intro rs h; cases rs with
    | nil => cases h
    | cons r rs =>
      simp only [lensEq, Bool.and_eq_true] at h
      simp [Nat.eq_of_beq_eq_true h.1, ih h.2]
theorem sys_ok {f : FuncId} {fn : Func} {body : Code} {cx : Cx J Y} {cert : J → Cert P J Y} (hm : P.follows .mixedOrders = true) (hf : P.funcs[f]? = some fn) (hb : fn.body = some body) (hname : (fn.name == "runtime.NumGoroutine") = false)
    (hnt : cx.nt = fn.ntmps) (hrv : cx.rvs = fn.results.toList) (args : List GArg) (hn : args.length ≤ fn.ntmps) (hmh : cx.mh = mutH 0 args)
    (c0 : Cert P J Y) (h0 : execC P cx body [] (topC P cx) c0 (ES.init args)) (hj : ∀ j, chkAt P cx body (cx.path j) (cert j) (cx.snap j).es) (y : Y) (hr : Runs c0 (KOf (fun j => Ev cert j y) y)) : SpecG P f args (cx.res y) (cx.outs y) := by
  refine specG_of_body hf hb hname hn fun B w0 hI hos => ?_
  rw [← hnt, ← hrv, ← hmh]
  have hos' : ∀ h, w0.os.N h ≤ 1 := fun h => by rw [hos]; exact Nat.le_refl _
  let Q0 : Exit → AS → Prop := fun e s => (e = .normal ∨ e = .ret) ∧ retG P s cx.rvs (cx.res y) cx.mh (cx.outs y)
  let Qr : Exit → AS → Prop := fun e s => ∃ s', RefB B cx.nt w0 s s' ∧ Q0 e s'
  suffices hmain : AWp B cx.nt w0 P body Qr (AS.initG args) by
    intro a w hs
    refine wp_mono (hmain a w hs) ?_
    rintro e a' w' ⟨s', ⟨s2, h1, h2⟩, h3⟩
    exact ⟨s2, h2, h1 a' w' h3⟩
  have htop : ∀ (L : J → Prop) e c' es', topC P cx e c' es' → Runs c' (KOf L y) → Qr e es'.den := by
    intro L e c' es' h hr
    have hend : endC P cx c' es' → ∃ s', RefB B cx.nt w0 es'.den s' ∧ retG P s' cx.rvs (cx.res y) cx.mh (cx.outs y) := by
      intro h
      obtain ⟨c2, es2, h1, h2, h3⟩ := pre_ok (B := B) (nt := cx.nt) (w0 := w0) c' es' h hr
      split at h1
      · rename_i y'
        have hy : y' = y := h2
        subst hy
        refine ⟨_, h3, ?_⟩
        split at h1
        · rename_i avs oc e1 e2
          split at h1
          · rename_i cells e3
            obtain ⟨g1, g2⟩ := gd_elim h1
            simp only [Bool.and_eq_true] at g1
            unfold retG
            refine ⟨cellsSmall_ok g1.1.1.1, ?_⟩
            simp only [e1, e2, e3]
            exact ⟨lensEq_ok g1.1.1.2, outRs_ok g2, nodupP_ok g1.1.2, disjP_ok g1.2⟩
          · exact h1.elim
        · exact h1.elim
      · exact h1.elim
    cases e with
    | normal => obtain ⟨s', g1, g2⟩ := hend h; exact ⟨s', g1, .inl rfl, g2⟩
    | ret => obtain ⟨s', g1, g2⟩ := hend h; exact ⟨s', g1, .inr rfl, g2⟩
    | _ => exact h.elim
  have claim : ∀ n j, EvN cert n j y → ∀ c Q, posA B cx.nt w0 P n body Qr (cx.path j) = some (c, Q) → EntA B cx.nt w0 P n c Q (cx.snap j).es.den := by
    intro n
    induction n with
    | zero => intro j h; exact h.elim
    | succ n ih =>
      intro j h c Q hp
      have hc := hj j
      unfold chkAt at hc
      split at hc
      · rename_i x Qc e
        obtain ⟨Qa, e1, h1⟩ := posC_ok (L := fun j => EvN cert n j y) hm hos' ih (htop _) _ _ _ e
        obtain ⟨Q', e2, h2⟩ := posA_mono (Nat.le_succ n) _ _ _ e1
        rw [e2] at hp
        cases hp
        show AWp B cx.nt w0 P x (thenA (loopN B cx.nt w0 P n x Q) Q) _
        refine awp_mono (execC_ok (L := fun j => EvN cert n j y) (y0 := y) hm hos' ih x (0 :: cx.path j) _ (thenA (loopN B cx.nt w0 P n x Qa) Qa) _ _ (by simp only [posA, e1]) hc h fun e c' es' he hr' => ?_) (thenA_mono (fun s hs => loopN_mono h2 n n s (Nat.le_refl _) hs) h2)
        cases e with
        | normal =>
          have he' : meet cx (cx.path j) (fun _ _ => False) c' es' := he
          rcases meet_ok (B := B) (nt := cx.nt) (w0 := w0) hos' he' hr' with ⟨j', s2, g1, rfl, g3, g4⟩ | ⟨c2, es2, g1, _⟩
          · exact loopN_refB g1 (ih j' g4 (.loop x) Qa (by rw [g3]; exact e1))
          · exact g1.elim
        | _ => exact h1 _ _ _ he hr'
      · rename_i x Qc hnl e
        obtain ⟨Qa, e1, h1⟩ := posC_ok (L := fun j => EvN cert n j y) hm hos' ih (htop _) _ _ _ e
        obtain ⟨Q', e2, h2⟩ := posA_mono (Nat.le_succ n) _ _ _ e1
        rw [e2] at hp
        cases hp
        have hawp := awp_mono (execC_ok (L := fun j => EvN cert n j y) (y0 := y) hm hos' ih c (cx.path j) Qc Qa _ _ e1 hc h h1) h2
        cases c with
        | loop x' => exact (hnl x' rfl).elim
        | _ => exact hawp
      · exact hc.elim
  obtain ⟨n, hr'⟩ := evEx hr
  have := execC_ok (L := fun j => EvN cert n j y) (y0 := y) (n := n) (body := body) (Qr := Qr) hm hos' (claim n) body [] (topC P cx) Qr c0 (ES.init args) rfl h0 hr' (htop _)
  rw [den_init] at this
  exact this
end
end Go.AV
end
