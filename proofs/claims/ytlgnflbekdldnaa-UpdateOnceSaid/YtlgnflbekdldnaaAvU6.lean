/- Layer 33: outcomes, settling, the laws. -/
import Derived.Test.YtlgnflbekdldnaaAvU5
set_option linter.unusedVariables false
set_option maxRecDepth 4000
namespace Go.Proofs
open Go Go.AV
namespace UP
open VU
attribute [local irreducible] Runs
def vz : GVal := GVal.mk 0 0 (⟨#[]⟩ : ByteArray) [] []
theorem vz_ok : vz.ok := ⟨rfl, rfl, by decide, ⟨trivial, by decide⟩, ⟨by simp, by decide⟩, trivial⟩
def pz : GPending := GPending.mk 0 0 0 0 0 0 (⟨#[]⟩ : ByteArray) vz vz false [] [] [] [] [] []
def rz (h : List GEvent) (l : List GAdmit) : GRun := GRun.mk (⟨#[]⟩ : ByteArray) (⟨#[]⟩ : ByteArray) (⟨#[]⟩ : ByteArray) 0 h pz [] l [] 0 0
def eok (h : List GEvent) : Prop := (∀ x ∈ h, x.ok) ∧ h.length ≤ 4611686018427387904
def ev (k : Int) (key : ByteArray) (e : GEvent) : Bool := (e.Kind == k) && strEq e.Key key
def oc (l : List GAdmit) (key : ByteArray) : Bool → List GEvent → Int × GVal
  | acc, [] => if acc = true then (2, vz) else if listed l key = true then (1, vz) else (0, vz)
  | acc, e :: r => if ev 28 key e = true then (if (e.N == 0) = true then (3, e.Data) else (4, e.Data)) else oc l key (acc || ev 27 key e) r
theorem oc_idx (l : List GAdmit) (key : ByteArray) : ∀ (h : List GEvent) (acc : Bool) (k : Nat),
    (idxF (ev 28 key) h k = -1 ∧ oc l key acc h = oc l key (acc || h.any (ev 27 key)) []) ∨ ∃ (i : Nat) (hi : i < h.length), idxF (ev 28 key) h k = ((k + i : Nat) : Int) ∧ oc l key acc h = (if (h[i].N == 0) = true then (3, h[i].Data) else (4, h[i].Data))
  | [], acc, k => .inl ⟨rfl, by simp⟩
  | e :: r, acc, k => by
    by_cases h : ev 28 key e = true
    · refine .inr ⟨0, by simp, ?_, ?_⟩
      · rw [idxF, if_pos h]; rfl
      · rw [oc, if_pos h]; rfl
    · have e1 : oc l key acc (e :: r) = oc l key (acc || ev 27 key e) r := by rw [oc, if_neg h]
      rw [idxF, if_neg h, e1]
      rcases oc_idx l key r (acc || ev 27 key e) (k + 1) with ⟨h1, h2⟩ | ⟨i, hi, h1, h2⟩
      · exact .inl ⟨h1, by rw [h2, List.any_cons, Bool.or_assoc]⟩
      · exact .inr ⟨i + 1, by simpa using hi, by rw [show (k : Int) + 1 = ((k + 1 : Nat) : Int) from rfl, h1]; congr 1; omega, h2⟩
theorem oc_ok {l : List GAdmit} {key : ByteArray} : ∀ (h : List GEvent) (acc : Bool), (∀ x ∈ h, x.ok) → (oc l key acc h).2.ok
  | [], acc, _ => by unfold oc; split; exact vz_ok; split <;> exact vz_ok
  | e :: r, acc, hx => by
    unfold oc
    have := hx e (List.mem_cons_self ..)
    split
    · split <;> exact this.2.2.2.2.2.2.2.2.2.1
    · exact oc_ok r _ (fun x h => hx x (List.mem_cons_of_mem _ h))
theorem m150 (k : Int) (r : GRun) (key : ByteArray) (hr : eok r.History) : Try.m150.R (k, r, key) (idxF (ev k key) r.History 0) := by
  refine U.run_call _ (idx151 r.History _ (ev k key) (fun x _ => U.run_ite (fun h => U.run_ret ?_) (fun h => U.run_ret ?_)) hr.2) (U.run_ret rfl)
  · show _ = _; unfold ev; rw [h]; rfl
  · show _ = _; unfold ev; rw [h]; rfl
theorem m75 (r : GRun) (key : ByteArray) (hr : eok r.History) (hl : lok r.Admits) : Try.m75.R (r, key) (oc r.Admits key false r.History) := by
  refine U.run_call _ (m150 28 r key hr) ?_
  rcases oc_idx r.Admits key r.History false 0 with ⟨h1, h2⟩ | ⟨i, hi, h1, h2⟩
  · rw [h2]
    have h1' : idxF (ev 28 key) r.History 0 = -1 := h1
    rw [h1']
    refine U.run_f rfl (U.run_call _ (m150 27 r key hr) (U.run_ite (fun hb => U.run_ret ?_) (fun hb => U.run_call _ (m141 _ key (lok_len hl)) (U.run_ite (fun hc => U.run_ret ?_) (fun hc => U.run_ret ?_)))))
    · show _ = _
      rw [idxF_any _ _ 0 (by decide)] at hb
      rw [hb]; rfl
    · show _ = _
      rw [idxF_any _ _ 0 (by decide)] at hb
      rw [hb, oc]; show _ = if _ then _ else if _ then _ else _
      rw [if_neg (by decide), if_pos hc]; rfl
    · show _ = _
      rw [idxF_any _ _ 0 (by decide)] at hb
      rw [hb, oc]; show _ = if _ then _ else if _ then _ else _
      rw [if_neg (by decide), if_neg (by rw [hc]; decide)]; rfl
  · rw [Nat.zero_add] at h1
    have h1' : idxF (ev 28 key) r.History 0 = (i : Int) := h1
    rw [h1', h2]
    have hd := (hr.1 _ (List.getElem_mem hi)).2.2.2.2.2.2.2.2.2.1
    refine U.run_t (decide_eq_true (by omega)) (U.run_elem hi (U.run_call _ (m153 _ hd) (U.run_elem hi (U.run_ite (fun hb => U.run_ret ?_) (fun hb => U.run_ret ?_)))))
    · show _ = _; rw [if_pos hb]
    · show _ = _; rw [if_neg (by rw [hb]; decide)]
theorem m76 (r : GRun) (key : ByteArray) (hr : eok r.History) (hl : lok r.Admits) : Try.m76.R (r, key) (oc r.Admits key false r.History) := by
  refine U.run_jump ?_
  show Ev _ _ _
  refine (U.ev_for r.History (fun i (s : GVal × Bool) => Try.J76.s0 key r s.1 s.2 i) (fun _ _ => True) (fun l s => oc r.Admits key s.2 l) hr.2 ?_ ?_ (_, false) trivial :)
  · rintro ⟨t, acc⟩ _
    refine U.run_len (U.run_f U.dec_f (U.run_ite (fun hb => U.run_ret ?_) (fun hb => U.run_call _ (m149 _ key (lok_len hl)) (U.run_ite (fun hc => U.run_ret ?_) (fun hc => U.run_ret ?_)))))
    · show _ = if _ then _ else _; rw [if_pos hb]; rfl
    · show _ = if _ then _ else if _ then _ else _; rw [if_neg (by rw [hb]; decide), if_pos hc]; rfl
    · show _ = if _ then _ else if _ then _ else _; rw [if_neg (by rw [hb]; decide), if_neg (by rw [hc]; decide)]; rfl
  · rintro i hi ⟨t, acc⟩ _ hw ht x l hx hm y hy ih
    rw [oc] at hy
    dsimp only at hy
    refine U.run_len (U.run_t ht (U.run_elemX hi hx (U.run_ite (fun hb => U.run_jump ?_) (fun hb => U.run_ite (fun hc => U.run_ite (fun hd => U.run_ret ?_) (fun hd => U.run_ret ?_)) (fun hc => U.run_ite (fun hd => U.run_jump ?_) (fun hd => U.run_jump ?_))))))
    · have hk : ∀ k, ev k key x = false := fun k => by unfold ev; simp at hb; rw [hb]; simp
      show Ev _ _ _
      rw [hw]; refine ih (_, acc) trivial ?_
      rw [hy, hk 28, hk 27]; simp
    · have hk : ev 28 key x = true := by unfold ev; simp at hb; rw [hb, hc]; rfl
      show _ = _
      rw [hy, if_pos hk, if_neg (by simpa using hd)]
    · have hk : ev 28 key x = true := by unfold ev; simp at hb; rw [hb, hc]; rfl
      show _ = _
      rw [hy, if_pos hk, if_pos (by simpa using hd)]
    · have hk : ev 28 key x = false := by unfold ev; rw [hc]; rfl
      show Ev _ _ _
      dsimp only at hd
      rw [hw]; refine ih (_, true) trivial ?_
      rw [hy, hk, hd]; simp
    · have hk : ev 28 key x = false := by unfold ev; rw [hc]; rfl
      show Ev _ _ _
      dsimp only at hd
      rw [hw]; refine ih (_, _) trivial ?_
      have hk2 : ev 27 key x = (x.Kind == 27) := by unfold ev; simp at hb; rw [hb, Bool.and_true]
      rw [hy, hk, hd, hk2]; simp
/-! ### Settling -/
def goneC (k : ByteArray) (c : GCommand) : Bool := (c.Kind == 8) && strEq c.Key k
def gone (cs : List GCommand) (rs : List ByteArray) (k : ByteArray) : Bool := cs.any (goneC k) || rs.any fun z => strEq z k
def settle (l : List GAdmit) (cs : List GCommand) (rs : List ByteArray) : List GAdmit := l.filter fun a => !gone cs rs a.Key
def tr (ks : List ByteArray) : List Bool := ks.map fun _ => true
theorem mgetT_tr (ks : List ByteArray) (k : ByteArray) : mgetT ks (tr ks) false k = decide (k ∈ ks) := by
  unfold mgetT
  cases h : mfind k ks with
  | none => exact (decide_eq_false (mfind_none.1 h)).symm
  | some i =>
    obtain ⟨h1, h2⟩ := mfind_some h
    have hm : k ∈ ks := by
      rw [← h2, List.getD_eq_getElem?_getD, List.getElem?_eq_getElem h1]; exact List.getElem_mem h1
    rw [decide_eq_true hm]
    show (tr ks).getD i false = true
    rw [List.getD_eq_getElem?_getD, tr, List.getElem?_map, List.getElem?_eq_getElem h1]; rfl
theorem mputT_tr (ks : List ByteArray) (k : ByteArray) : mputT ks (tr ks) k true = tr (mputK ks k) := by
  unfold mputT mputK mhas
  cases e : mfind k ks with
  | none => simp [tr]
  | some i =>
    simp only [Option.isSome_some, if_true]
    apply List.ext_getElem
    · simp [tr]
    · intro j q1 q2
      simp only [List.getElem_set, tr, List.getElem_map]
      split <;> rfl
theorem put_or (ks : List ByteArray) (a k : ByteArray) : (decide (k ∈ mputK ks a)) = (decide (k ∈ ks) || strEq a k) := by
  rw [strEq_iff, Bool.eq_iff_iff]
  simp only [Bool.or_eq_true, decide_eq_true_eq, mputK_mem]
  exact or_congr Iff.rfl ⟨Eq.symm, Eq.symm⟩
theorem m77 (l : List GAdmit) (cs : List GCommand) (rs : List ByteArray) (hl : lok l) (hc : cs.length ≤ 4611686018427387904) (hr : rs.length ≤ 4611686018427387904) : Try.m77.R (l, cs, rs) (settle l cs rs) := by
  refine U.run_len (U.run_jump ?_)
  show Ev _ _ _
  have e : settle l cs rs = l.filter fun a => !(decide (a.Key ∈ ([] : List ByteArray)) || gone cs rs a.Key) := by unfold settle; congr 1
  rw [e]
  refine (U.ev_for cs (fun i (s : List ByteArray) => Try.J77.s0 l rs s (tr s) cs cs.length i) (fun _ _ => True) (fun r s => l.filter fun a => !(decide (a.Key ∈ s) || gone r rs a.Key)) hc ?_ ?_ [] trivial :)
  · intro s _
    refine U.run_f U.dec_f (U.run_len (U.run_jump ?_))
    show Ev _ _ _
    refine (U.ev_for rs (fun i (s : List ByteArray) => Try.J77.s1 l s (tr s) rs rs.length i) (fun _ _ => True) (fun r s => l.filter fun a => !(decide (a.Key ∈ s) || gone [] r a.Key)) hr ?_ ?_ s trivial :)
    · intro s _
      refine U.run_f U.dec_f (U.run_call _ (m144 l _ (fun a => !decide (a.Key ∈ s)) hl (fun x _ => U.run_mget (by simp [tr]) (U.run_ret ?_))) (U.run_ret ?_))
      · show _ = _
        rw [mgetT_tr]
      · show _ = _
        congr 1; funext a; simp [gone]
    · intro i hi s _ hw ht x r hx hm y hy ih
      refine U.run_t ht (U.run_elemX hi hx (U.run_mput (U.run_jump ?_)))
      show Ev _ _ _
      rw [hw, mputT_tr]; refine ih _ trivial ?_
      rw [hy]; congr 1; funext a
      rw [put_or]; simp only [gone, List.any_nil, List.any_cons, Bool.false_or, Bool.or_assoc]
  · intro i hi s _ hw ht x r hx hm y hy ih
    refine U.run_t ht (U.run_elemX hi hx (U.run_ite (fun hb => U.run_mput (U.run_jump ?_)) (fun hb => U.run_jump ?_)))
    · show Ev _ _ _
      rw [hw, mputT_tr]; refine ih _ trivial ?_
      rw [hy]; congr 1; funext a
      rw [put_or]; simp only [gone, goneC, hb, List.any_cons, Bool.true_and, Bool.or_assoc]
    · show Ev _ _ _
      rw [hw]; refine ih _ trivial ?_
      rw [hy]; congr 1; funext a
      simp only [gone, goneC, hb, List.any_cons, Bool.false_and, Bool.false_or]
theorem m78 (l : List GAdmit) (cs : List GCommand) (rs : List ByteArray) (hl : lok l) (hc : cs.length ≤ 4611686018427387904) (hr : rs.length ≤ 4611686018427387904) : Try.m78.R (l, cs, rs) (settle l cs rs) := by
  refine U.run_adT (U.run_jump ?_)
  show Ev _ _ _
  refine (U.ev_for l (fun i s => Try.J78.s0 l cs rs s i) (fun i s => s.length ≤ i) (fun r s => s ++ settle r cs rs) (lok_len hl) ?_ ?_ [] (Nat.le_refl _) :)
  · intro s _
    exact U.run_len (U.run_f U.dec_f (U.run_ret (List.append_nil s).symm))
  · intro i hi s hs hw ht x r hx hm y hy ih
    refine U.run_len (U.run_t ht (U.run_jump ?_))
    show Ev _ _ _
    have hy' : y = if (true && !gone cs rs x.Key) = true then (s ++ [x]) ++ settle r cs rs else s ++ settle r cs rs := by
      rw [hy]; unfold settle; rw [List.filter_cons, Bool.true_and]; split <;> simp
    rw [hy']
    refine (U.ev_for cs (fun k (b : Bool) => Try.J78.s1 l cs rs s i b k) (fun _ _ => True) (fun q b => if (b && !gone q rs x.Key) = true then (s ++ [x]) ++ settle r cs rs else s ++ settle r cs rs) hc ?_ ?_ true trivial :)
    · intro b _
      refine U.run_len (U.run_f U.dec_f (U.run_jump ?_))
      show Ev _ _ _
      refine (U.ev_for rs (fun k (b : Bool) => Try.J78.s2 l cs rs s i b k) (fun _ _ => True) (fun q b => if (b && !gone [] q x.Key) = true then (s ++ [x]) ++ settle r cs rs else s ++ settle r cs rs) hr ?_ ?_ b trivial :)
      · intro b _
        refine U.run_len (U.run_f U.dec_f (U.run_ite (fun hb => U.run_elemX hi hx (U.run_bld (U.run_app ?_ (U.run_jump ?_)))) (fun hb => U.run_jump ?_)))
        · have := hl.2; have := reach_eq; simp; omega
        · show Ev _ _ _
          rw [hw]; refine ih _ (by simp; omega) ?_
          rw [hb]; simp [gone]
        · show Ev _ _ _
          rw [hw]; refine ih _ (by omega) ?_
          rw [hb]; simp
      · intro k hk b _ hw2 ht2 z q hz hzm y2 hy2 ih2
        refine U.run_len (U.run_t ht2 (U.run_ite (fun hb => U.run_elemX hk hz (U.run_elemX hi hx (U.run_jump ?_))) (fun hb => U.run_jump ?_)))
        · show Ev _ _ _
          rw [hw2]; refine ih2 _ trivial ?_
          rw [hy2, hb]; simp only [gone, List.any_nil, List.any_cons, Bool.false_or, Bool.true_and, Bool.not_or]
        · show Ev _ _ _
          rw [hw2]; refine ih2 _ trivial ?_
          rw [hy2, hb]; simp
    · intro k hk b _ hw2 ht2 z q hz hzm y2 hy2 ih2
      refine U.run_len (U.run_t ht2 (U.run_ite (fun hb => U.run_elemX hk hz (U.run_ite (fun hc => U.run_elemX hk hz (U.run_elemX hi hx (U.run_jump ?_))) (fun hc => U.run_jump ?_))) (fun hb => U.run_jump ?_)))
      · show Ev _ _ _
        rw [hw2]; refine ih2 _ trivial ?_
        rw [hy2, hb]; simp only [gone, goneC, hc, List.any_cons, Bool.true_and, Bool.not_or, Bool.and_assoc]
      · show Ev _ _ _
        rw [hw2]; refine ih2 _ trivial ?_
        have e : gone (z :: q) rs x.Key = gone q rs x.Key := by simp [gone, goneC, hc]
        rw [hy2, hb, e]
      · show Ev _ _ _
        rw [hw2]; refine ih2 _ trivial ?_
        rw [hy2, hb]; simp
/-! ### The example -/
def az : GAdmit := GAdmit.mk (⟨#[117, 49]⟩ : ByteArray) (⟨#[117, 112]⟩ : ByteArray) vz
def ez : GEvent := GEvent.mk 1 27 0 0 0 0 0 (⟨#[]⟩ : ByteArray) (⟨#[117, 49]⟩ : ByteArray) vz (GPolicy.mk (⟨#[]⟩ : ByteArray) 0 0 0 0 0 0 0 0 [])
theorem az_ok : az.ok := ⟨by decide, by decide, vz_ok, trivial⟩
theorem ez_ok : ez.ok := ⟨rfl, rfl, rfl, rfl, rfl, rfl, rfl, by decide, by decide, vz_ok, ⟨by decide, rfl, rfl, rfl, rfl, rfl, rfl, rfl, rfl, ⟨by simp [ez], by decide⟩, trivial⟩, trivial⟩
theorem lok_nil : lok [] := ⟨by simp, by decide⟩
theorem lok_az : lok [az] := ⟨by simp [az_ok], by decide⟩
theorem admit_z : admit [] pz az = ([az], false, 0) := by
  have h1 : ident az.Key = true := by decide +kernel
  have h2 : RT.nameOk az.Name = true := by decide +kernel
  have h3 : right az.Data = true := by decide +kernel
  have h4 : known [] pz az.Key = false := by decide +kernel
  unfold admit
  rw [h1, h2, h3, h4]; rfl
theorem m74 : Try.m74.R () true := by
  have c1 := m71 [] pz az lok_nil (by decide) az_ok
  rw [admit_z] at c1
  have c2 := m75 (rz [] [az]) ⟨#[117, 49]⟩ ⟨by simp [rz], by simp [rz]⟩ lok_az
  have e2 : oc (rz [] [az]).Admits ⟨#[117, 49]⟩ false (rz [] [az]).History = (1, vz) := by
    have : listed [az] ⟨#[117, 49]⟩ = true := by decide +kernel
    show (if _ then _ else if listed [az] ⟨#[117, 49]⟩ = true then _ else _) = _
    rw [this]; rfl
  rw [e2] at c2
  have c3 := m75 (rz [ez] []) ⟨#[117, 49]⟩ ⟨by simp [rz, ez_ok], by simp [rz]⟩ lok_nil
  have e3 : oc (rz [ez] []).Admits ⟨#[117, 49]⟩ false (rz [ez] []).History = (2, vz) := by
    have h1 : ev 28 ⟨#[117, 49]⟩ ez = false := by decide +kernel
    have h2 : ev 27 ⟨#[117, 49]⟩ ez = true := by decide +kernel
    show (if ev 28 ⟨#[117, 49]⟩ ez = true then _ else oc [] _ (false || ev 27 ⟨#[117, 49]⟩ ez) []) = _
    rw [h1, h2]; rfl
  rw [e3] at c3
  refine U.run_call _ c1 (U.run_f rfl (U.run_f rfl (U.run_len (U.run_f rfl (U.run_call _ c2 (U.run_bld (U.run_call _ c3 (U.run_t rfl (U.run_t rfl (U.run_elemP 0 rfl (by decide) (U.run_ret ?_)))))))))))
  show strEq az.Key _ = true
  decide +kernel
/-! ### The laws -/
theorem lok_admit {l : List GAdmit} {p : GPending} {a : GAdmit} (hl : lok l) (ha : a.ok) : lok (admit l p a).1 := by
  unfold admit
  split; exact lok_nil
  split; exact lok_nil
  split; exact lok_nil
  split; exact hl
  split; exact lok_nil
  split; exact lok_nil
  rename_i h
  have h' : ¬ 200 ≤ (l.length : Int) := by simpa using h
  refine ⟨fun x hx => ?_, ?_⟩
  · rcases List.mem_append.1 hx with h | h
    · exact hl.1 x h
    · rw [List.mem_singleton.1 h]; exact ha
  · have := reach_eq
    rw [List.length_append, List.length_singleton]; omega
theorem lok_filter {l : List GAdmit} (p : GAdmit → Bool) (hl : lok l) : lok (l.filter p) := by
  refine ⟨fun x hx => hl.1 x (List.mem_filter.1 hx).1, ?_⟩
  have := List.length_filter_le p l
  have := hl.2
  omega
theorem law15 (l : List GAdmit) (p : GPending) (a : GAdmit) (hl : lok l) (hp : p.Updates.length * 24 ≤ reachBytes) (ha : a.ok) : Try.m15.R (l, p, a) true := by
  refine U.run_call _ (m69 l hl) (U.run_ite (fun _ => U.run_ret rfl) (fun _ => U.run_call _ (m70 a.Data ha.2.2.1) (U.run_ite (fun _ => U.run_ret rfl) (fun _ => U.run_call _ (m71 l p a hl hp ha) (U.run_call _ (m72 l p a hl hp ha) (U.run_t (by simp) (U.run_t (by simp) (U.run_call _ (m73 _ (lok_admit hl ha)) (U.run_t rfl (U.run_call _ m74 (U.run_ret rfl)))))))))))
theorem law16 (h : List GEvent) (l : List GAdmit) (key : ByteArray) (hh : ∀ x ∈ h, x.ok) (hl : lok l) : Try.m16.R (h, l, key) true := by
  refine U.run_len (U.run_ite (fun _ => U.run_ret rfl) (fun hb => U.run_call _ (m69 l hl) (U.run_ite (fun _ => U.run_ret rfl) (fun _ => ?_))))
  have he : eok h := ⟨hh, by have := of_decide_eq_false hb; dsimp only at this; omega⟩
  refine U.run_call _ (m75 (rz h l) key he hl) (U.run_call _ (m76 (rz h l) key he hl) (U.run_t (by simp) (U.run_call _ (m56 _ (oc_ok _ _ hh)) (U.run_t rfl (U.run_call _ m74 (U.run_ret rfl))))))
theorem law17 (l : List GAdmit) (cs : List GCommand) (rs : List ByteArray) (hl : lok l) : Try.m17.R (l, cs, rs) true := by
  refine U.run_call _ (m69 l hl) (U.run_ite (fun _ => U.run_ret rfl) (fun _ => U.run_len (U.run_ite (fun _ => U.run_ret rfl) (fun hb => U.run_len (U.run_ite (fun _ => U.run_ret rfl) (fun hc => ?_))))))
  have h1 : cs.length ≤ 4611686018427387904 := by have := of_decide_eq_false hb; dsimp only at this; omega
  have h2 : rs.length ≤ 4611686018427387904 := by have := of_decide_eq_false hc; dsimp only at this; omega
  refine U.run_call _ (m77 l cs rs hl h1 h2) (U.run_call _ (m78 l cs rs hl h1 h2) (U.run_call _ (m73 _ (lok_filter _ hl)) (U.run_t rfl (U.run_call _ m74 (U.run_ret rfl)))))
theorem admit_two (l : List GAdmit) (a : GAdmit) (h : (admit l pz a).2.2 = 0) : ∃ b, admit (admit l pz a).1 pz a = ((admit l pz a).1, true, 0) ∧ admit l pz a = ((admit l pz a).1, b, 0) := by
  by_cases h1 : ident a.Key = false
  · unfold admit at h; rw [if_pos h1] at h; cases h
  by_cases h2 : RT.nameOk a.Name = false
  · unfold admit at h; rw [if_neg h1, if_pos h2] at h; cases h
  by_cases h3 : right a.Data = false
  · unfold admit at h; rw [if_neg h1, if_neg h2, if_pos h3] at h; cases h
  have e : ∀ k, admit k pz a = if known k pz a.Key = true then (k, true, 0) else if (pz.Status != 0) = true then ([], false, 17) else if decide (200 ≤ (k.length : Int)) = true then ([], false, 18) else (k ++ [a], false, 0) := fun k => by
    unfold admit; rw [if_neg h1, if_neg h2, if_neg h3]
  by_cases h4 : known l pz a.Key = true
  · have e1 : admit l pz a = (l, true, 0) := by rw [e, if_pos h4]
    rw [e1]
    exact ⟨true, e1, rfl⟩
  · by_cases h5 : decide (200 ≤ (l.length : Int)) = true
    · rw [e, if_neg h4, if_neg (by decide), if_pos h5] at h; cases h
    · have e1 : admit l pz a = (l ++ [a], false, 0) := by rw [e, if_neg h4, if_neg (by decide), if_neg h5]
      rw [e1]
      have h6 : known (l ++ [a]) pz a.Key = true := by unfold known listed; simp [strEq_iff]
      exact ⟨false, by rw [e, if_pos h6], rfl⟩
theorem gone_none (l : List GAdmit) (cs : List GCommand) (rs : List ByteArray) (k : ByteArray) (h : gone cs rs k = true) : listed (settle l cs rs) k = false := by
  unfold listed settle
  rw [List.any_filter, List.any_eq_false]
  intro x _
  rw [strEq_iff]
  intro hx
  simp only [Bool.and_eq_true, decide_eq_true_eq] at hx
  rw [hx.2, h] at hx
  exact absurd hx.1 (by decide)
theorem law18 (l : List GAdmit) (a : GAdmit) (b : Bool) (hl : lok l) (ha : a.ok) : Try.m18.R (l, a, b) true := by
  have hend : ∀ l' cs rs, lok l' → cs.length ≤ 100 → rs.length ≤ 100 → gone cs rs a.Key = true → Ev Try.c18 (.s0 a l' cs rs) true := by
    intro l' cs rs hl' h1 h2 hg
    have c2 := m75 (rz [] (settle l' cs rs)) a.Key ⟨by simp [rz], by simp [rz]⟩ (lok_filter _ hl')
    have e2 : oc (rz [] (settle l' cs rs)).Admits a.Key false (rz [] (settle l' cs rs)).History = (0, vz) := by
      show (if _ then _ else if listed (settle l' cs rs) a.Key = true then _ else _) = _
      rw [gone_none _ _ _ _ hg]; rfl
    rw [e2] at c2
    exact Ev.intro (U.run_call _ (m77 l' cs rs hl' (by omega) (by omega)) (U.run_call _ c2 (U.run_t rfl (U.run_call _ m74 (U.run_ret rfl)))))
  have c1 := m71 l pz a hl (by decide) ha
  have hl1 := lok_admit (p := pz) hl ha
  refine U.run_call _ (m69 l hl) (U.run_ite (fun _ => U.run_ret rfl) (fun _ => U.run_call _ (m70 a.Data ha.2.2.1) (U.run_ite (fun _ => U.run_ret rfl) (fun _ => U.run_call _ c1 (U.run_ite (fun _ => U.run_call _ m74 (U.run_ret rfl)) (fun hb => ?_))))))
  have hz : (admit l pz a).2.2 = 0 := by simpa using hb
  obtain ⟨b1, e1, e2⟩ := admit_two l a hz
  have c2 := m71 (admit l pz a).1 pz a hl1 (by decide) ha
  rw [e1] at c2
  refine U.run_call _ c2 (U.run_f rfl (U.run_f rfl (U.run_call _ (m73 _ hl1) (U.run_f rfl (U.run_ite (fun _ => U.run_bld (U.run_app (by simp) (U.run_adT (U.run_jump ?_)))) (fun _ => U.run_bld (U.run_app (by simp) (U.run_adT (U.run_jump ?_)))))))))
  · show Ev _ _ _
    exact hend _ _ _ hl1 (by simp) (by simp) (by simp [gone, goneC, strEq_iff])
  · show Ev _ _ _
    exact hend _ _ _ hl1 (by simp) (by simp) (by simp [gone, goneC, strEq_iff])
end UP
end Go.Proofs
