/- Texts AvZT AvZP. -/
import Derived.Shelf.RegionOpenPlain
import Derived.WalkKit
import Derived.Deep.RegionLaw
import Derived.Lib.Walk
import Derived.Lib.SliceRun
import Derived.Sort.WalkB12
import Derived.Test.YtlgnflbekdldnaaGreatDoorAvK36
set_option linter.unusedVariables false
set_option linter.unusedSimpArgs false
set_option linter.unusedSectionVars false
noncomputable section
namespace Go.Proofs
open Go Go.RowKit Go.AV
namespace ZT
theorem setCells_row (b : Nat) : ∀ (vs : List Value) (o : Nat) (w : World) (cur : Array Value) (e : TypeId) (fz : Nat × Nat), w.heap[b]? = some (.cells cur e fz) → o + vs.length ≤ cur.size →
    (w.setCells b o vs).heap[b]? = some (.cells (cur.toList.take o ++ vs ++ cur.toList.drop (o + vs.length)).toArray e fz) ∧ (w.setCells b o vs).os = w.os ∧ (w.setCells b o vs).tape = w.tape ∧ (w.setCells b o vs).output = w.output ∧ (w.setCells b o vs).heap.size = w.heap.size ∧ (w.setCells b o vs).drawn = w.drawn ∧ ∀ k, k ≠ b → (w.setCells b o vs).heap[k]? = w.heap[k]?
  | [], o, w, cur, e, fz, h, ho => ⟨by simp [World.setCells, h], rfl, rfl, rfl, rfl, rfl, fun _ _ => rfl⟩
  | v :: r, o, w, cur, e, fz, h, ho => by
    rw [List.length_cons] at ho
    have hlt : b < w.heap.size := by
      rcases Nat.lt_or_ge b w.heap.size with h' | h'
      · exact h'
      · rw [Array.getElem?_eq_none h'] at h; cases h
    have h1 : (w.setCell ⟨b, o, none⟩ v).heap[b]? = some (.cells (cur.setIfInBounds o v) e fz) := by
      simp only [World.setCell, Array.getElem?_modify, h]; simp
    have ih := setCells_row b r (o + 1) (w.setCell ⟨b, o, none⟩ v) (cur.setIfInBounds o v) e fz h1 (by rw [Array.size_setIfInBounds]; omega)
    obtain ⟨g1, g2, g3, g4, g5, g6, g7⟩ := ih
    refine ⟨?_, g2, g3, g4, by rw [World.setCells, g5]; simp [World.setCell], g6, fun k hk => by rw [World.setCells, g7 k hk]; simp [World.setCell, Array.getElem?_modify, Ne.symm hk]⟩
    rw [World.setCells, g1]
    congr 2
    have hset : (cur.setIfInBounds o v).toList = cur.toList.take o ++ v :: cur.toList.drop (o + 1) := by
      rw [Array.toList_setIfInBounds, List.set_eq_take_append_cons_drop, if_pos (by simpa using (by omega : o < cur.size))]
    have hl : (cur.toList.take o).length = o := by rw [List.length_take, Array.length_toList]; omega
    rw [hset]
    have h3 : (cur.toList.take o ++ v :: cur.toList.drop (o + 1)).take (o + 1) = cur.toList.take o ++ [v] := by
      rw [List.take_append, hl, show o + 1 - o = 1 by omega, List.take_of_length_le (by omega)]; rfl
    have h4 : (cur.toList.take o ++ v :: cur.toList.drop (o + 1)).drop (o + 1 + r.length) = cur.toList.drop (o + (v :: r).length) := by
      rw [List.drop_append, hl, List.drop_of_length_le (by omega), List.nil_append, show o + 1 + r.length - o = r.length + 1 by omega, List.drop_succ_cons, List.drop_drop, List.length_cons]
      congr 1; omega
    rw [h3, h4]; simp
theorem run_clear1 {P : Program} (w : World) (t e ty : TypeId) (z : Value) (ht : P.underlying t = some (.slice e)) (hv : ∀ w, (zeroValue e).run P w = .ok z w) (h1 : ∀ u ∈ z.cells.toList, u.oneCell' = true) (b o n c : Nat) (hn : n = 1)
    (hc : ∀ j, j < z.cells.size → (w.cell? ⟨b, o + j, none⟩).isSome = true) (hf : ∀ j, j < z.cells.size → w.frozen? ⟨b, o + j, none⟩ = false) :
    (Builtin.clear_ #[t] ty #[.slice (some ⟨b, o, none⟩) n c]).run P w = .ok (.tuple #[]) (w.setCells b o z.cells.toList) := by
  subst hn
  have hzc : (Builtin.zeroCells z.cells 1).toList = z.cells.toList := by
    unfold Builtin.zeroCells
    apply List.ext_getElem
    · simp
    · intro i h1 h2
      have h3 : i < z.cells.size := by simpa using h2
      simp [Nat.mod_eq_of_lt h3, getElem!_pos z.cells i h3]
  have hst := run_storeCells_cells (P := P) b o z.cells.toList 0 w (by simpa using hc) (by simpa using hf) h1
  simp only [Nat.add_zero] at hst
  simp [Builtin.clear_, run_underlying ht, hv, hzc, hst]
theorem del_cells (cur : Array Value) (zs : List Value) (k n cap i : Nat) (hk : 0 < k) (hz : zs.length = k) (hc : cur.size = cap * k) (hi : i < n) (hn : n ≤ cap) :
    (cur.toList.take (i * k) ++ (cur.toList.take (n * k)).drop ((i + 1) * k) ++ cur.toList.drop (i * k + ((cur.toList.take (n * k)).drop ((i + 1) * k)).length)).toArray.toList.take ((n - 1) * k) = cur.toList.take (i * k) ++ (cur.toList.take (n * k)).drop ((i + 1) * k) := by
  have hcl : cur.toList.length = cap * k := by rw [Array.length_toList, hc]
  have h1 : i * k ≤ (n - 1) * k := Nat.mul_le_mul_right k (by omega)
  have h2 : n * k ≤ cap * k := Nat.mul_le_mul_right k hn
  have h3 : (n - 1) * k + k = n * k := by rw [← Nat.succ_mul]; congr 1; omega
  have h4 : (i + 1) * k = i * k + k := Nat.succ_mul i k
  have l1 : (cur.toList.take (i * k)).length = i * k := by rw [List.length_take, hcl]; omega
  have l2 : ((cur.toList.take (n * k)).drop ((i + 1) * k)).length = (n - 1) * k - i * k := by rw [List.length_drop, List.length_take, hcl]; omega
  have l3 : (cur.toList.take (i * k) ++ (cur.toList.take (n * k)).drop ((i + 1) * k)).length = (n - 1) * k := by rw [List.length_append, l1, l2]; omega
  show List.take ((n - 1) * k) (cur.toList.take (i * k) ++ (cur.toList.take (n * k)).drop ((i + 1) * k) ++ cur.toList.drop (i * k + ((cur.toList.take (n * k)).drop ((i + 1) * k)).length)) = _
  rw [List.take_append_of_le_length (by omega), List.take_of_length_le (by omega)]
set_option maxRecDepth 100000 in
theorem del225 (w : World) (b n cap i : Nat) (cur : Array Value) (hb : w.heap[b]? = some (.cells cur 47 (0, 0))) (hc : cur.size = cap * 32) (hi : i < n) (hn : n ≤ cap) (hm : cap ≤ maxLen) (h1c : ∀ u ∈ cur.toList.take (n * 32), u.oneCell' = true) :
    Calls Tryz.prog 225 #[.slice (some ⟨b, 0, none⟩) n cap, .int .i64 (i : Int), .int .i64 ((i + 1 : Nat) : Int)] w fun e w' => e = .returned (.slice (some ⟨b, 0, none⟩) (n - 1) cap) ∧ ∃ cur', w'.heap[b]? = some (.cells cur' 47 (0, 0)) ∧ cur'.size = cap * 32 ∧ cur'.toList.take ((n - 1) * 32) = cur.toList.take (i * 32) ++ (cur.toList.take (n * 32)).drop ((i + 1) * 32) ∧
      w'.os = w.os ∧ w'.tape = w.tape ∧ w'.output = w.output ∧ w'.heap.size = w.heap.size ∧ ∀ k, k ≠ b → w'.heap[k]? = w.heap[k]? := by
  obtain ⟨j, hj⟩ : ∃ j, j = i + 1 := ⟨_, rfl⟩
  obtain ⟨news, hnews⟩ : ∃ news, news = (cur.toList.take (n * 32)).drop (j * 32) := ⟨_, rfl⟩
  have hcl : cur.toList.length = cap * 32 := by rw [Array.length_toList, hc]
  have hlen : news.length = (n - j) * 32 := by rw [hnews, List.length_drop, List.length_take, hcl]; omega
  have hcell : ∀ o, o < cap * 32 → w.cell? ⟨b, o, none⟩ = some cur.toList[o]! := by
    intro o ho
    have ho' : o < cur.size := by omega
    simp [World.cell?, hb, Array.getElem?_eq_getElem ho', getElem!_pos cur o ho']
  have hfz : ∀ o, w.frozen? ⟨b, o, none⟩ = false := by intro o; simp [World.frozen?, hb]
  have hget : ∀ t u, news[t]? = some u → w.cell? ⟨b, j * 32 + t, none⟩ = some u := by
    intro t u hu
    have ht : t < news.length := (List.getElem?_eq_some_iff.1 hu).1
    rw [hnews, List.getElem?_drop, List.getElem?_take] at hu
    split at hu
    · have : j * 32 + t < cur.size := by omega
      rw [Array.getElem?_toList, Array.getElem?_eq_getElem this] at hu
      simp [World.cell?, hb, Array.getElem?_eq_getElem this]; exact Option.some.inj hu
    · cases hu
  obtain ⟨A, hA, hsrc⟩ : ∃ A : Addr, (if cap = j then some (⟨b, 0, none⟩ : Addr) else some ⟨b, j * 32, none⟩) = some A ∧ Hid (∀ t u, news[t]? = some u → w.drew.cell? (A.add t) = some u) := by
    by_cases h : cap = j
    · refine ⟨⟨b, 0, none⟩, by simp [h], fun t u hu => ?_⟩
      have h0 : news.length = 0 := by rw [hlen, show n - j = 0 by omega, Nat.zero_mul]
      rw [List.length_eq_zero_iff.1 h0] at hu
      simp at hu
    · refine ⟨⟨b, j * 32, none⟩, by simp [h], fun t u hu => ?_⟩
      have hadd : (⟨b, j * 32, none⟩ : Addr).add t = ⟨b, j * 32 + t, none⟩ := by unfold Addr.add; split <;> simp_all
      rw [hadd]; exact hget t u hu
  have s1 : Hid (news.length = (n - j) * 32) := hlen
  have s2 : Hid (∀ u ∈ news, u.oneCell' = true) := by
    intro u hu
    rw [hnews] at hu
    exact h1c u (List.mem_of_mem_drop hu)
  have s3 : Hid (∀ t, t < news.length → (w.drew.cell? ⟨b, 0 + i * 32 + t, none⟩).isSome = true ∧ w.drew.frozen? ⟨b, 0 + i * 32 + t, none⟩ = false) := by
    intro t ht
    rw [hlen] at ht
    exact ⟨by show (w.cell? _).isSome = true; rw [hcell _ (by omega)]; rfl, hfz _⟩
  obtain ⟨W1, hW1⟩ : ∃ W1, W1 = w.drew.setCells b (0 + i * 32) news := ⟨_, rfl⟩
  obtain ⟨g1, g2, g3, g4, g5, _, g7⟩ := setCells_row b news (0 + i * 32) w.drew cur 47 (0, 0) hb (by rw [hlen, hc]; omega)
  rw [← hW1] at g1 g2 g3 g4 g5 g7
  obtain ⟨cur1, hcur1⟩ : ∃ cur1, cur1 = (cur.toList.take (0 + i * 32) ++ news ++ cur.toList.drop (0 + i * 32 + news.length)).toArray := ⟨_, rfl⟩
  rw [← hcur1] at g1
  have hs1 : cur1.size = cap * 32 := by rw [hcur1]; simp [hlen, hc]; omega
  obtain ⟨z, hz⟩ : ∃ z, zeroOf Tryz.prog 47 = some z := ⟨_, Tryz.z47⟩
  have hzl : z.cells.size = 32 := by rw [Tryz.z47] at hz; cases hz; rfl
  have hz1 : ∀ u ∈ z.cells.toList, u.oneCell' = true := by rw [Tryz.z47] at hz; cases hz; decide
  obtain ⟨zs, hzs⟩ : ∃ zs, zs = z.cells.toList := ⟨_, rfl⟩
  have hzsl : zs.length = 32 := by rw [hzs, Array.length_toList, hzl]
  have hcl1 : ∀ o, o < cap * 32 → (W1.cell? ⟨b, o, none⟩).isSome = true := by
    intro o ho
    have ho' : o < cur1.size := by omega
    simp [World.cell?, g1, Array.getElem?_eq_getElem ho']
  have hfz1 : ∀ o, W1.frozen? ⟨b, o, none⟩ = false := by intro o; simp [World.frozen?, g1]
  have hcl : ∀ ty, (Builtin.clear_ #[29] ty #[.slice (some ⟨b, (i + (n - j)) * 32, none⟩) (n - (i + (n - j))) (cap - (i + (n - j)))]).run Tryz.prog W1 = .ok (.tuple #[]) (W1.setCells b ((i + (n - j)) * 32) zs) :=
    fun ty => by rw [hzs]; exact run_clear1 W1 29 47 ty z Tryz.underlying29 (fun w => zeroValue_run hz) hz1 b _ _ _ (by omega) (fun t ht => hcl1 _ (by rw [hzl] at ht; omega)) (fun t _ => hfz1 _)
  obtain ⟨f1, f2, f3, f4, f5, _, f7⟩ := setCells_row b zs ((i + (n - j)) * 32) W1 cur1 47 (0, 0) g1 (by rw [hzsl, hs1]; omega)
  have fin : ∃ cur', (W1.setCells b ((i + (n - j)) * 32) zs).heap[b]? = some (.cells cur' 47 (0, 0)) ∧ cur'.size = cap * 32 ∧ cur'.toList.take ((n - 1) * 32) = cur.toList.take (i * 32) ++ (cur.toList.take (n * 32)).drop ((i + 1) * 32) ∧
      (W1.setCells b ((i + (n - j)) * 32) zs).os = w.os ∧ (W1.setCells b ((i + (n - j)) * 32) zs).tape = w.tape ∧ (W1.setCells b ((i + (n - j)) * 32) zs).output = w.output ∧ (W1.setCells b ((i + (n - j)) * 32) zs).heap.size = w.heap.size ∧ ∀ k, k ≠ b → (W1.setCells b ((i + (n - j)) * 32) zs).heap[k]? = w.heap[k]? := by
    refine ⟨_, f1, by simp [hs1, hzsl]; omega, ?_, f2.trans g2, f3.trans g3, f4.trans g4, f5.trans g5, fun k hk => (f7 k hk).trans (g7 k hk)⟩
    have hl1 : (cur1.toList.take ((i + (n - j)) * 32)).length = (n - 1) * 32 := by rw [List.length_take, Array.length_toList, hs1]; omega
    rw [show (i + (n - j)) * 32 = (n - 1) * 32 by omega] at hl1 ⊢
    rw [List.append_assoc, List.take_append_of_le_length (by omega), List.take_take, Nat.min_self, hcur1, Nat.zero_add, hnews, hj]
    exact del_cells cur zs 32 n cap i (by decide) hzsl hc hi hn
  have hW : Hid (W1 = w.drew.setCells b (0 + i * 32) news) := hW1
  have X : Aside (∃ cur', (W1.setCells b ((i + (n - j)) * 32) zs).heap[b]? = some (.cells cur' 47 (0, 0)) ∧ cur'.size = cap * 32 ∧ cur'.toList.take ((n - 1) * 32) = cur.toList.take (i * 32) ++ (cur.toList.take (n * 32)).drop ((i + 1) * 32) ∧
      (W1.setCells b ((i + (n - j)) * 32) zs).os = w.os ∧ (W1.setCells b ((i + (n - j)) * 32) zs).tape = w.tape ∧ (W1.setCells b ((i + (n - j)) * 32) zs).output = w.output ∧ (W1.setCells b ((i + (n - j)) * 32) zs).heap.size = w.heap.size ∧ ∀ k, k ≠ b → (W1.setCells b ((i + (n - j)) * 32) zs).heap[k]? = w.heap[k]?) := fin
  have hic : i ≤ cap := by omega
  have hjc : j ≤ cap := by omega
  have hij : i ≤ j := by omega
  have hjn : j ≤ n := by omega
  have hne : ¬ ((i : Int) = (j : Int)) := by omega
  have hfin : Hid (n - 1 = i + (n - j)) := by show n - 1 = i + (n - j); omega
  have hlt : i < j := by omega
  rw [← hj] at X ⊢
  clear hj hzs hzsl hz hz1 hzl hW1 hb hcell hfz hget hnews hcl1 hfz1 f1 f2 f3 f4 f5 f7 g1 g2 g3 g4 g5 g7 fin hcur1 hs1 h1c hlen
  obtain ⟨i0, hi0⟩ := Option.isSome_iff_exists.1 Tryz.in47
  have hsz : i0.size = 32 := by have := Tryz.ti47; simp [tiOf, hi0] at this; simp_all
  have mixed : Tryz.prog.follows Departure.mixedOrders = true := by kernel_rfl
  go_enter Tryz.func225, Tryz.ntmps225
  go_wp2_with fail
  go_region_law_o (refine step_append_room rfl (.tmp 22) (.tmp 25) 29 rfl 47 i0 32 Tryz.underlying29 hi0 hsz b 0 i cap (by simp [Act.eval, Act.put]) A (n - j) (cap - j) news (by simp [Act.eval, Act.put]) s1.out hsrc.out s2.out (by omega) s3.out ?_; rw [← hW.out])
  go_wp2
  go_ret
  exact ⟨by rw [hfin.out]; rfl, X.out⟩
set_option maxRecDepth 100000 in
theorem del226 (w : World) (b n cap i : Nat) (cur : Array Value) (hb : w.heap[b]? = some (.cells cur 49 (0, 0))) (hc : cur.size = cap * 3) (hi : i < n) (hn : n ≤ cap) (hm : cap ≤ maxLen) (h1c : ∀ u ∈ cur.toList.take (n * 3), u.oneCell' = true) :
    Calls Tryz.prog 226 #[.slice (some ⟨b, 0, none⟩) n cap, .int .i64 (i : Int), .int .i64 ((i + 1 : Nat) : Int)] w fun e w' => e = .returned (.slice (some ⟨b, 0, none⟩) (n - 1) cap) ∧ ∃ cur', w'.heap[b]? = some (.cells cur' 49 (0, 0)) ∧ cur'.size = cap * 3 ∧ cur'.toList.take ((n - 1) * 3) = cur.toList.take (i * 3) ++ (cur.toList.take (n * 3)).drop ((i + 1) * 3) ∧
      w'.os = w.os ∧ w'.tape = w.tape ∧ w'.output = w.output ∧ w'.heap.size = w.heap.size ∧ ∀ k, k ≠ b → w'.heap[k]? = w.heap[k]? := by
  obtain ⟨j, hj⟩ : ∃ j, j = i + 1 := ⟨_, rfl⟩
  obtain ⟨news, hnews⟩ : ∃ news, news = (cur.toList.take (n * 3)).drop (j * 3) := ⟨_, rfl⟩
  have hcl : cur.toList.length = cap * 3 := by rw [Array.length_toList, hc]
  have hlen : news.length = (n - j) * 3 := by rw [hnews, List.length_drop, List.length_take, hcl]; omega
  have hcell : ∀ o, o < cap * 3 → w.cell? ⟨b, o, none⟩ = some cur.toList[o]! := by
    intro o ho
    have ho' : o < cur.size := by omega
    simp [World.cell?, hb, Array.getElem?_eq_getElem ho', getElem!_pos cur o ho']
  have hfz : ∀ o, w.frozen? ⟨b, o, none⟩ = false := by intro o; simp [World.frozen?, hb]
  have hget : ∀ t u, news[t]? = some u → w.cell? ⟨b, j * 3 + t, none⟩ = some u := by
    intro t u hu
    have ht : t < news.length := (List.getElem?_eq_some_iff.1 hu).1
    rw [hnews, List.getElem?_drop, List.getElem?_take] at hu
    split at hu
    · have : j * 3 + t < cur.size := by omega
      rw [Array.getElem?_toList, Array.getElem?_eq_getElem this] at hu
      simp [World.cell?, hb, Array.getElem?_eq_getElem this]; exact Option.some.inj hu
    · cases hu
  obtain ⟨A, hA, hsrc⟩ : ∃ A : Addr, (if cap = j then some (⟨b, 0, none⟩ : Addr) else some ⟨b, j * 3, none⟩) = some A ∧ Hid (∀ t u, news[t]? = some u → w.drew.cell? (A.add t) = some u) := by
    by_cases h : cap = j
    · refine ⟨⟨b, 0, none⟩, by simp [h], fun t u hu => ?_⟩
      have h0 : news.length = 0 := by rw [hlen, show n - j = 0 by omega, Nat.zero_mul]
      rw [List.length_eq_zero_iff.1 h0] at hu
      simp at hu
    · refine ⟨⟨b, j * 3, none⟩, by simp [h], fun t u hu => ?_⟩
      have hadd : (⟨b, j * 3, none⟩ : Addr).add t = ⟨b, j * 3 + t, none⟩ := by unfold Addr.add; split <;> simp_all
      rw [hadd]; exact hget t u hu
  have s1 : Hid (news.length = (n - j) * 3) := hlen
  have s2 : Hid (∀ u ∈ news, u.oneCell' = true) := by
    intro u hu
    rw [hnews] at hu
    exact h1c u (List.mem_of_mem_drop hu)
  have s3 : Hid (∀ t, t < news.length → (w.drew.cell? ⟨b, 0 + i * 3 + t, none⟩).isSome = true ∧ w.drew.frozen? ⟨b, 0 + i * 3 + t, none⟩ = false) := by
    intro t ht
    rw [hlen] at ht
    exact ⟨by show (w.cell? _).isSome = true; rw [hcell _ (by omega)]; rfl, hfz _⟩
  obtain ⟨W1, hW1⟩ : ∃ W1, W1 = w.drew.setCells b (0 + i * 3) news := ⟨_, rfl⟩
  obtain ⟨g1, g2, g3, g4, g5, _, g7⟩ := setCells_row b news (0 + i * 3) w.drew cur 49 (0, 0) hb (by rw [hlen, hc]; omega)
  rw [← hW1] at g1 g2 g3 g4 g5 g7
  obtain ⟨cur1, hcur1⟩ : ∃ cur1, cur1 = (cur.toList.take (0 + i * 3) ++ news ++ cur.toList.drop (0 + i * 3 + news.length)).toArray := ⟨_, rfl⟩
  rw [← hcur1] at g1
  have hs1 : cur1.size = cap * 3 := by rw [hcur1]; simp [hlen, hc]; omega
  obtain ⟨z, hz⟩ : ∃ z, zeroOf Tryz.prog 49 = some z := ⟨_, Tryz.z49⟩
  have hzl : z.cells.size = 3 := by rw [Tryz.z49] at hz; cases hz; rfl
  have hz1 : ∀ u ∈ z.cells.toList, u.oneCell' = true := by rw [Tryz.z49] at hz; cases hz; decide
  obtain ⟨zs, hzs⟩ : ∃ zs, zs = z.cells.toList := ⟨_, rfl⟩
  have hzsl : zs.length = 3 := by rw [hzs, Array.length_toList, hzl]
  have hcl1 : ∀ o, o < cap * 3 → (W1.cell? ⟨b, o, none⟩).isSome = true := by
    intro o ho
    have ho' : o < cur1.size := by omega
    simp [World.cell?, g1, Array.getElem?_eq_getElem ho']
  have hfz1 : ∀ o, W1.frozen? ⟨b, o, none⟩ = false := by intro o; simp [World.frozen?, g1]
  have hcl : ∀ ty, (Builtin.clear_ #[30] ty #[.slice (some ⟨b, (i + (n - j)) * 3, none⟩) (n - (i + (n - j))) (cap - (i + (n - j)))]).run Tryz.prog W1 = .ok (.tuple #[]) (W1.setCells b ((i + (n - j)) * 3) zs) :=
    fun ty => by rw [hzs]; exact run_clear1 W1 30 49 ty z Tryz.underlying30 (fun w => zeroValue_run hz) hz1 b _ _ _ (by omega) (fun t ht => hcl1 _ (by rw [hzl] at ht; omega)) (fun t _ => hfz1 _)
  obtain ⟨f1, f2, f3, f4, f5, _, f7⟩ := setCells_row b zs ((i + (n - j)) * 3) W1 cur1 49 (0, 0) g1 (by rw [hzsl, hs1]; omega)
  have fin : ∃ cur', (W1.setCells b ((i + (n - j)) * 3) zs).heap[b]? = some (.cells cur' 49 (0, 0)) ∧ cur'.size = cap * 3 ∧ cur'.toList.take ((n - 1) * 3) = cur.toList.take (i * 3) ++ (cur.toList.take (n * 3)).drop ((i + 1) * 3) ∧
      (W1.setCells b ((i + (n - j)) * 3) zs).os = w.os ∧ (W1.setCells b ((i + (n - j)) * 3) zs).tape = w.tape ∧ (W1.setCells b ((i + (n - j)) * 3) zs).output = w.output ∧ (W1.setCells b ((i + (n - j)) * 3) zs).heap.size = w.heap.size ∧ ∀ k, k ≠ b → (W1.setCells b ((i + (n - j)) * 3) zs).heap[k]? = w.heap[k]? := by
    refine ⟨_, f1, by simp [hs1, hzsl]; omega, ?_, f2.trans g2, f3.trans g3, f4.trans g4, f5.trans g5, fun k hk => (f7 k hk).trans (g7 k hk)⟩
    have hl1 : (cur1.toList.take ((i + (n - j)) * 3)).length = (n - 1) * 3 := by rw [List.length_take, Array.length_toList, hs1]; omega
    rw [show (i + (n - j)) * 3 = (n - 1) * 3 by omega] at hl1 ⊢
    rw [List.append_assoc, List.take_append_of_le_length (by omega), List.take_take, Nat.min_self, hcur1, Nat.zero_add, hnews, hj]
    exact del_cells cur zs 3 n cap i (by decide) hzsl hc hi hn
  have hW : Hid (W1 = w.drew.setCells b (0 + i * 3) news) := hW1
  have X : Aside (∃ cur', (W1.setCells b ((i + (n - j)) * 3) zs).heap[b]? = some (.cells cur' 49 (0, 0)) ∧ cur'.size = cap * 3 ∧ cur'.toList.take ((n - 1) * 3) = cur.toList.take (i * 3) ++ (cur.toList.take (n * 3)).drop ((i + 1) * 3) ∧
      (W1.setCells b ((i + (n - j)) * 3) zs).os = w.os ∧ (W1.setCells b ((i + (n - j)) * 3) zs).tape = w.tape ∧ (W1.setCells b ((i + (n - j)) * 3) zs).output = w.output ∧ (W1.setCells b ((i + (n - j)) * 3) zs).heap.size = w.heap.size ∧ ∀ k, k ≠ b → (W1.setCells b ((i + (n - j)) * 3) zs).heap[k]? = w.heap[k]?) := fin
  have hic : i ≤ cap := by omega
  have hjc : j ≤ cap := by omega
  have hij : i ≤ j := by omega
  have hjn : j ≤ n := by omega
  have hne : ¬ ((i : Int) = (j : Int)) := by omega
  have hfin : Hid (n - 1 = i + (n - j)) := by show n - 1 = i + (n - j); omega
  have hlt : i < j := by omega
  rw [← hj] at X ⊢
  clear hj hzs hzsl hz hz1 hzl hW1 hb hcell hfz hget hnews hcl1 hfz1 f1 f2 f3 f4 f5 f7 g1 g2 g3 g4 g5 g7 fin hcur1 hs1 h1c hlen
  obtain ⟨i0, hi0⟩ := Option.isSome_iff_exists.1 Tryz.in49
  have hsz : i0.size = 3 := by have := Tryz.ti49; simp [tiOf, hi0] at this; simp_all
  have mixed : Tryz.prog.follows Departure.mixedOrders = true := by kernel_rfl
  go_enter Tryz.func226, Tryz.ntmps226
  go_wp2_with fail
  go_region_law_o (refine step_append_room rfl (.tmp 22) (.tmp 25) 30 rfl 49 i0 3 Tryz.underlying30 hi0 hsz b 0 i cap (by simp [Act.eval, Act.put]) A (n - j) (cap - j) news (by simp [Act.eval, Act.put]) s1.out hsrc.out s2.out (by omega) s3.out ?_; rw [← hW.out])
  go_wp2
  go_ret
  exact ⟨by rw [hfin.out]; rfl, X.out⟩
set_option maxRecDepth 100000 in
theorem del227 (w : World) (b n cap i : Nat) (cur : Array Value) (hb : w.heap[b]? = some (.cells cur 53 (0, 0))) (hc : cur.size = cap * 4) (hi : i < n) (hn : n ≤ cap) (hm : cap ≤ maxLen) (h1c : ∀ u ∈ cur.toList.take (n * 4), u.oneCell' = true) :
    Calls Tryz.prog 227 #[.slice (some ⟨b, 0, none⟩) n cap, .int .i64 (i : Int), .int .i64 ((i + 1 : Nat) : Int)] w fun e w' => e = .returned (.slice (some ⟨b, 0, none⟩) (n - 1) cap) ∧ ∃ cur', w'.heap[b]? = some (.cells cur' 53 (0, 0)) ∧ cur'.size = cap * 4 ∧ cur'.toList.take ((n - 1) * 4) = cur.toList.take (i * 4) ++ (cur.toList.take (n * 4)).drop ((i + 1) * 4) ∧
      w'.os = w.os ∧ w'.tape = w.tape ∧ w'.output = w.output ∧ w'.heap.size = w.heap.size ∧ ∀ k, k ≠ b → w'.heap[k]? = w.heap[k]? := by
  obtain ⟨j, hj⟩ : ∃ j, j = i + 1 := ⟨_, rfl⟩
  obtain ⟨news, hnews⟩ : ∃ news, news = (cur.toList.take (n * 4)).drop (j * 4) := ⟨_, rfl⟩
  have hcl : cur.toList.length = cap * 4 := by rw [Array.length_toList, hc]
  have hlen : news.length = (n - j) * 4 := by rw [hnews, List.length_drop, List.length_take, hcl]; omega
  have hcell : ∀ o, o < cap * 4 → w.cell? ⟨b, o, none⟩ = some cur.toList[o]! := by
    intro o ho
    have ho' : o < cur.size := by omega
    simp [World.cell?, hb, Array.getElem?_eq_getElem ho', getElem!_pos cur o ho']
  have hfz : ∀ o, w.frozen? ⟨b, o, none⟩ = false := by intro o; simp [World.frozen?, hb]
  have hget : ∀ t u, news[t]? = some u → w.cell? ⟨b, j * 4 + t, none⟩ = some u := by
    intro t u hu
    have ht : t < news.length := (List.getElem?_eq_some_iff.1 hu).1
    rw [hnews, List.getElem?_drop, List.getElem?_take] at hu
    split at hu
    · have : j * 4 + t < cur.size := by omega
      rw [Array.getElem?_toList, Array.getElem?_eq_getElem this] at hu
      simp [World.cell?, hb, Array.getElem?_eq_getElem this]; exact Option.some.inj hu
    · cases hu
  obtain ⟨A, hA, hsrc⟩ : ∃ A : Addr, (if cap = j then some (⟨b, 0, none⟩ : Addr) else some ⟨b, j * 4, none⟩) = some A ∧ Hid (∀ t u, news[t]? = some u → w.drew.cell? (A.add t) = some u) := by
    by_cases h : cap = j
    · refine ⟨⟨b, 0, none⟩, by simp [h], fun t u hu => ?_⟩
      have h0 : news.length = 0 := by rw [hlen, show n - j = 0 by omega, Nat.zero_mul]
      rw [List.length_eq_zero_iff.1 h0] at hu
      simp at hu
    · refine ⟨⟨b, j * 4, none⟩, by simp [h], fun t u hu => ?_⟩
      have hadd : (⟨b, j * 4, none⟩ : Addr).add t = ⟨b, j * 4 + t, none⟩ := by unfold Addr.add; split <;> simp_all
      rw [hadd]; exact hget t u hu
  have s1 : Hid (news.length = (n - j) * 4) := hlen
  have s2 : Hid (∀ u ∈ news, u.oneCell' = true) := by
    intro u hu
    rw [hnews] at hu
    exact h1c u (List.mem_of_mem_drop hu)
  have s3 : Hid (∀ t, t < news.length → (w.drew.cell? ⟨b, 0 + i * 4 + t, none⟩).isSome = true ∧ w.drew.frozen? ⟨b, 0 + i * 4 + t, none⟩ = false) := by
    intro t ht
    rw [hlen] at ht
    exact ⟨by show (w.cell? _).isSome = true; rw [hcell _ (by omega)]; rfl, hfz _⟩
  obtain ⟨W1, hW1⟩ : ∃ W1, W1 = w.drew.setCells b (0 + i * 4) news := ⟨_, rfl⟩
  obtain ⟨g1, g2, g3, g4, g5, _, g7⟩ := setCells_row b news (0 + i * 4) w.drew cur 53 (0, 0) hb (by rw [hlen, hc]; omega)
  rw [← hW1] at g1 g2 g3 g4 g5 g7
  obtain ⟨cur1, hcur1⟩ : ∃ cur1, cur1 = (cur.toList.take (0 + i * 4) ++ news ++ cur.toList.drop (0 + i * 4 + news.length)).toArray := ⟨_, rfl⟩
  rw [← hcur1] at g1
  have hs1 : cur1.size = cap * 4 := by rw [hcur1]; simp [hlen, hc]; omega
  obtain ⟨z, hz⟩ : ∃ z, zeroOf Tryz.prog 53 = some z := ⟨_, Tryz.z53⟩
  have hzl : z.cells.size = 4 := by rw [Tryz.z53] at hz; cases hz; rfl
  have hz1 : ∀ u ∈ z.cells.toList, u.oneCell' = true := by rw [Tryz.z53] at hz; cases hz; decide
  obtain ⟨zs, hzs⟩ : ∃ zs, zs = z.cells.toList := ⟨_, rfl⟩
  have hzsl : zs.length = 4 := by rw [hzs, Array.length_toList, hzl]
  have hcl1 : ∀ o, o < cap * 4 → (W1.cell? ⟨b, o, none⟩).isSome = true := by
    intro o ho
    have ho' : o < cur1.size := by omega
    simp [World.cell?, g1, Array.getElem?_eq_getElem ho']
  have hfz1 : ∀ o, W1.frozen? ⟨b, o, none⟩ = false := by intro o; simp [World.frozen?, g1]
  have hcl : ∀ ty, (Builtin.clear_ #[32] ty #[.slice (some ⟨b, (i + (n - j)) * 4, none⟩) (n - (i + (n - j))) (cap - (i + (n - j)))]).run Tryz.prog W1 = .ok (.tuple #[]) (W1.setCells b ((i + (n - j)) * 4) zs) :=
    fun ty => by rw [hzs]; exact run_clear1 W1 32 53 ty z Tryz.underlying32 (fun w => zeroValue_run hz) hz1 b _ _ _ (by omega) (fun t ht => hcl1 _ (by rw [hzl] at ht; omega)) (fun t _ => hfz1 _)
  obtain ⟨f1, f2, f3, f4, f5, _, f7⟩ := setCells_row b zs ((i + (n - j)) * 4) W1 cur1 53 (0, 0) g1 (by rw [hzsl, hs1]; omega)
  have fin : ∃ cur', (W1.setCells b ((i + (n - j)) * 4) zs).heap[b]? = some (.cells cur' 53 (0, 0)) ∧ cur'.size = cap * 4 ∧ cur'.toList.take ((n - 1) * 4) = cur.toList.take (i * 4) ++ (cur.toList.take (n * 4)).drop ((i + 1) * 4) ∧
      (W1.setCells b ((i + (n - j)) * 4) zs).os = w.os ∧ (W1.setCells b ((i + (n - j)) * 4) zs).tape = w.tape ∧ (W1.setCells b ((i + (n - j)) * 4) zs).output = w.output ∧ (W1.setCells b ((i + (n - j)) * 4) zs).heap.size = w.heap.size ∧ ∀ k, k ≠ b → (W1.setCells b ((i + (n - j)) * 4) zs).heap[k]? = w.heap[k]? := by
    refine ⟨_, f1, by simp [hs1, hzsl]; omega, ?_, f2.trans g2, f3.trans g3, f4.trans g4, f5.trans g5, fun k hk => (f7 k hk).trans (g7 k hk)⟩
    have hl1 : (cur1.toList.take ((i + (n - j)) * 4)).length = (n - 1) * 4 := by rw [List.length_take, Array.length_toList, hs1]; omega
    rw [show (i + (n - j)) * 4 = (n - 1) * 4 by omega] at hl1 ⊢
    rw [List.append_assoc, List.take_append_of_le_length (by omega), List.take_take, Nat.min_self, hcur1, Nat.zero_add, hnews, hj]
    exact del_cells cur zs 4 n cap i (by decide) hzsl hc hi hn
  have hW : Hid (W1 = w.drew.setCells b (0 + i * 4) news) := hW1
  have X : Aside (∃ cur', (W1.setCells b ((i + (n - j)) * 4) zs).heap[b]? = some (.cells cur' 53 (0, 0)) ∧ cur'.size = cap * 4 ∧ cur'.toList.take ((n - 1) * 4) = cur.toList.take (i * 4) ++ (cur.toList.take (n * 4)).drop ((i + 1) * 4) ∧
      (W1.setCells b ((i + (n - j)) * 4) zs).os = w.os ∧ (W1.setCells b ((i + (n - j)) * 4) zs).tape = w.tape ∧ (W1.setCells b ((i + (n - j)) * 4) zs).output = w.output ∧ (W1.setCells b ((i + (n - j)) * 4) zs).heap.size = w.heap.size ∧ ∀ k, k ≠ b → (W1.setCells b ((i + (n - j)) * 4) zs).heap[k]? = w.heap[k]?) := fin
  have hic : i ≤ cap := by omega
  have hjc : j ≤ cap := by omega
  have hij : i ≤ j := by omega
  have hjn : j ≤ n := by omega
  have hne : ¬ ((i : Int) = (j : Int)) := by omega
  have hfin : Hid (n - 1 = i + (n - j)) := by show n - 1 = i + (n - j); omega
  have hlt : i < j := by omega
  rw [← hj] at X ⊢
  clear hj hzs hzsl hz hz1 hzl hW1 hb hcell hfz hget hnews hcl1 hfz1 f1 f2 f3 f4 f5 f7 g1 g2 g3 g4 g5 g7 fin hcur1 hs1 h1c hlen
  obtain ⟨i0, hi0⟩ := Option.isSome_iff_exists.1 Tryz.in53
  have hsz : i0.size = 4 := by have := Tryz.ti53; simp [tiOf, hi0] at this; simp_all
  have mixed : Tryz.prog.follows Departure.mixedOrders = true := by kernel_rfl
  go_enter Tryz.func227, Tryz.ntmps227
  go_wp2_with fail
  go_region_law_o (refine step_append_room rfl (.tmp 22) (.tmp 25) 32 rfl 53 i0 4 Tryz.underlying32 hi0 hsz b 0 i cap (by simp [Act.eval, Act.put]) A (n - j) (cap - j) news (by simp [Act.eval, Act.put]) s1.out hsrc.out s2.out (by omega) s3.out ?_; rw [← hW.out])
  go_wp2
  go_ret
  exact ⟨by rw [hfin.out]; rfl, X.out⟩
set_option maxRecDepth 100000 in
theorem del228 (w : World) (b n cap i : Nat) (cur : Array Value) (hb : w.heap[b]? = some (.cells cur 51 (0, 0))) (hc : cur.size = cap * 6) (hi : i < n) (hn : n ≤ cap) (hm : cap ≤ maxLen) (h1c : ∀ u ∈ cur.toList.take (n * 6), u.oneCell' = true) :
    Calls Tryz.prog 228 #[.slice (some ⟨b, 0, none⟩) n cap, .int .i64 (i : Int), .int .i64 ((i + 1 : Nat) : Int)] w fun e w' => e = .returned (.slice (some ⟨b, 0, none⟩) (n - 1) cap) ∧ ∃ cur', w'.heap[b]? = some (.cells cur' 51 (0, 0)) ∧ cur'.size = cap * 6 ∧ cur'.toList.take ((n - 1) * 6) = cur.toList.take (i * 6) ++ (cur.toList.take (n * 6)).drop ((i + 1) * 6) ∧
      w'.os = w.os ∧ w'.tape = w.tape ∧ w'.output = w.output ∧ w'.heap.size = w.heap.size ∧ ∀ k, k ≠ b → w'.heap[k]? = w.heap[k]? := by
  obtain ⟨j, hj⟩ : ∃ j, j = i + 1 := ⟨_, rfl⟩
  obtain ⟨news, hnews⟩ : ∃ news, news = (cur.toList.take (n * 6)).drop (j * 6) := ⟨_, rfl⟩
  have hcl : cur.toList.length = cap * 6 := by rw [Array.length_toList, hc]
  have hlen : news.length = (n - j) * 6 := by rw [hnews, List.length_drop, List.length_take, hcl]; omega
  have hcell : ∀ o, o < cap * 6 → w.cell? ⟨b, o, none⟩ = some cur.toList[o]! := by
    intro o ho
    have ho' : o < cur.size := by omega
    simp [World.cell?, hb, Array.getElem?_eq_getElem ho', getElem!_pos cur o ho']
  have hfz : ∀ o, w.frozen? ⟨b, o, none⟩ = false := by intro o; simp [World.frozen?, hb]
  have hget : ∀ t u, news[t]? = some u → w.cell? ⟨b, j * 6 + t, none⟩ = some u := by
    intro t u hu
    have ht : t < news.length := (List.getElem?_eq_some_iff.1 hu).1
    rw [hnews, List.getElem?_drop, List.getElem?_take] at hu
    split at hu
    · have : j * 6 + t < cur.size := by omega
      rw [Array.getElem?_toList, Array.getElem?_eq_getElem this] at hu
      simp [World.cell?, hb, Array.getElem?_eq_getElem this]; exact Option.some.inj hu
    · cases hu
  obtain ⟨A, hA, hsrc⟩ : ∃ A : Addr, (if cap = j then some (⟨b, 0, none⟩ : Addr) else some ⟨b, j * 6, none⟩) = some A ∧ Hid (∀ t u, news[t]? = some u → w.drew.cell? (A.add t) = some u) := by
    by_cases h : cap = j
    · refine ⟨⟨b, 0, none⟩, by simp [h], fun t u hu => ?_⟩
      have h0 : news.length = 0 := by rw [hlen, show n - j = 0 by omega, Nat.zero_mul]
      rw [List.length_eq_zero_iff.1 h0] at hu
      simp at hu
    · refine ⟨⟨b, j * 6, none⟩, by simp [h], fun t u hu => ?_⟩
      have hadd : (⟨b, j * 6, none⟩ : Addr).add t = ⟨b, j * 6 + t, none⟩ := by unfold Addr.add; split <;> simp_all
      rw [hadd]; exact hget t u hu
  have s1 : Hid (news.length = (n - j) * 6) := hlen
  have s2 : Hid (∀ u ∈ news, u.oneCell' = true) := by
    intro u hu
    rw [hnews] at hu
    exact h1c u (List.mem_of_mem_drop hu)
  have s3 : Hid (∀ t, t < news.length → (w.drew.cell? ⟨b, 0 + i * 6 + t, none⟩).isSome = true ∧ w.drew.frozen? ⟨b, 0 + i * 6 + t, none⟩ = false) := by
    intro t ht
    rw [hlen] at ht
    exact ⟨by show (w.cell? _).isSome = true; rw [hcell _ (by omega)]; rfl, hfz _⟩
  obtain ⟨W1, hW1⟩ : ∃ W1, W1 = w.drew.setCells b (0 + i * 6) news := ⟨_, rfl⟩
  obtain ⟨g1, g2, g3, g4, g5, _, g7⟩ := setCells_row b news (0 + i * 6) w.drew cur 51 (0, 0) hb (by rw [hlen, hc]; omega)
  rw [← hW1] at g1 g2 g3 g4 g5 g7
  obtain ⟨cur1, hcur1⟩ : ∃ cur1, cur1 = (cur.toList.take (0 + i * 6) ++ news ++ cur.toList.drop (0 + i * 6 + news.length)).toArray := ⟨_, rfl⟩
  rw [← hcur1] at g1
  have hs1 : cur1.size = cap * 6 := by rw [hcur1]; simp [hlen, hc]; omega
  obtain ⟨z, hz⟩ : ∃ z, zeroOf Tryz.prog 51 = some z := ⟨_, Tryz.z51⟩
  have hzl : z.cells.size = 6 := by rw [Tryz.z51] at hz; cases hz; rfl
  have hz1 : ∀ u ∈ z.cells.toList, u.oneCell' = true := by rw [Tryz.z51] at hz; cases hz; decide
  obtain ⟨zs, hzs⟩ : ∃ zs, zs = z.cells.toList := ⟨_, rfl⟩
  have hzsl : zs.length = 6 := by rw [hzs, Array.length_toList, hzl]
  have hcl1 : ∀ o, o < cap * 6 → (W1.cell? ⟨b, o, none⟩).isSome = true := by
    intro o ho
    have ho' : o < cur1.size := by omega
    simp [World.cell?, g1, Array.getElem?_eq_getElem ho']
  have hfz1 : ∀ o, W1.frozen? ⟨b, o, none⟩ = false := by intro o; simp [World.frozen?, g1]
  have hcl : ∀ ty, (Builtin.clear_ #[31] ty #[.slice (some ⟨b, (i + (n - j)) * 6, none⟩) (n - (i + (n - j))) (cap - (i + (n - j)))]).run Tryz.prog W1 = .ok (.tuple #[]) (W1.setCells b ((i + (n - j)) * 6) zs) :=
    fun ty => by rw [hzs]; exact run_clear1 W1 31 51 ty z Tryz.underlying31 (fun w => zeroValue_run hz) hz1 b _ _ _ (by omega) (fun t ht => hcl1 _ (by rw [hzl] at ht; omega)) (fun t _ => hfz1 _)
  obtain ⟨f1, f2, f3, f4, f5, _, f7⟩ := setCells_row b zs ((i + (n - j)) * 6) W1 cur1 51 (0, 0) g1 (by rw [hzsl, hs1]; omega)
  have fin : ∃ cur', (W1.setCells b ((i + (n - j)) * 6) zs).heap[b]? = some (.cells cur' 51 (0, 0)) ∧ cur'.size = cap * 6 ∧ cur'.toList.take ((n - 1) * 6) = cur.toList.take (i * 6) ++ (cur.toList.take (n * 6)).drop ((i + 1) * 6) ∧
      (W1.setCells b ((i + (n - j)) * 6) zs).os = w.os ∧ (W1.setCells b ((i + (n - j)) * 6) zs).tape = w.tape ∧ (W1.setCells b ((i + (n - j)) * 6) zs).output = w.output ∧ (W1.setCells b ((i + (n - j)) * 6) zs).heap.size = w.heap.size ∧ ∀ k, k ≠ b → (W1.setCells b ((i + (n - j)) * 6) zs).heap[k]? = w.heap[k]? := by
    refine ⟨_, f1, by simp [hs1, hzsl]; omega, ?_, f2.trans g2, f3.trans g3, f4.trans g4, f5.trans g5, fun k hk => (f7 k hk).trans (g7 k hk)⟩
    have hl1 : (cur1.toList.take ((i + (n - j)) * 6)).length = (n - 1) * 6 := by rw [List.length_take, Array.length_toList, hs1]; omega
    rw [show (i + (n - j)) * 6 = (n - 1) * 6 by omega] at hl1 ⊢
    rw [List.append_assoc, List.take_append_of_le_length (by omega), List.take_take, Nat.min_self, hcur1, Nat.zero_add, hnews, hj]
    exact del_cells cur zs 6 n cap i (by decide) hzsl hc hi hn
  have hW : Hid (W1 = w.drew.setCells b (0 + i * 6) news) := hW1
  have X : Aside (∃ cur', (W1.setCells b ((i + (n - j)) * 6) zs).heap[b]? = some (.cells cur' 51 (0, 0)) ∧ cur'.size = cap * 6 ∧ cur'.toList.take ((n - 1) * 6) = cur.toList.take (i * 6) ++ (cur.toList.take (n * 6)).drop ((i + 1) * 6) ∧
      (W1.setCells b ((i + (n - j)) * 6) zs).os = w.os ∧ (W1.setCells b ((i + (n - j)) * 6) zs).tape = w.tape ∧ (W1.setCells b ((i + (n - j)) * 6) zs).output = w.output ∧ (W1.setCells b ((i + (n - j)) * 6) zs).heap.size = w.heap.size ∧ ∀ k, k ≠ b → (W1.setCells b ((i + (n - j)) * 6) zs).heap[k]? = w.heap[k]?) := fin
  have hic : i ≤ cap := by omega
  have hjc : j ≤ cap := by omega
  have hij : i ≤ j := by omega
  have hjn : j ≤ n := by omega
  have hne : ¬ ((i : Int) = (j : Int)) := by omega
  have hfin : Hid (n - 1 = i + (n - j)) := by show n - 1 = i + (n - j); omega
  have hlt : i < j := by omega
  rw [← hj] at X ⊢
  clear hj hzs hzsl hz hz1 hzl hW1 hb hcell hfz hget hnews hcl1 hfz1 f1 f2 f3 f4 f5 f7 g1 g2 g3 g4 g5 g7 fin hcur1 hs1 h1c hlen
  obtain ⟨i0, hi0⟩ := Option.isSome_iff_exists.1 Tryz.in51
  have hsz : i0.size = 6 := by have := Tryz.ti51; simp [tiOf, hi0] at this; simp_all
  have mixed : Tryz.prog.follows Departure.mixedOrders = true := by kernel_rfl
  go_enter Tryz.func228, Tryz.ntmps228
  go_wp2_with fail
  go_region_law_o (refine step_append_room rfl (.tmp 22) (.tmp 25) 31 rfl 51 i0 6 Tryz.underlying31 hi0 hsz b 0 i cap (by simp [Act.eval, Act.put]) A (n - j) (cap - j) news (by simp [Act.eval, Act.put]) s1.out hsrc.out s2.out (by omega) s3.out ?_; rw [← hW.out])
  go_wp2
  go_ret
  exact ⟨by rw [hfin.out]; rfl, X.out⟩
theorem enc_erase {α : Type} (E : Enc α) (xs : List α) (n : Nat) : (E.L xs).eraseIdx n = E.L (xs.eraseIdx n) := by
  rw [E.hL, E.hL, List.eraseIdx_eq_take_drop_succ, List.eraseIdx_eq_take_drop_succ, List.map_append, List.map_take, List.map_drop]
theorem repCs_take {w : World} {ok : Nat → Prop} {cs : List C} {vs : List Value} (h : RepCs w ok cs vs) (n : Nat) : RepCs w ok (cs.take n) (vs.take n) := by
  refine ⟨by simp [h.1], fun m hm => ?_⟩
  have hm' : m < n ∧ m < cs.length := by rw [List.length_take] at hm; omega
  have := h.2 m hm'.2
  rw [List.getD_eq_getElem?_getD, List.getD_eq_getElem?_getD] at this ⊢
  rwa [List.getElem?_take_of_lt hm'.1, List.getElem?_take_of_lt hm'.1]
theorem repCs_drop {w : World} {ok : Nat → Prop} {cs : List C} {vs : List Value} (h : RepCs w ok cs vs) (n : Nat) : RepCs w ok (cs.drop n) (vs.drop n) := by
  refine ⟨by simp [h.1], fun m hm => ?_⟩
  have hm' : n + m < cs.length := by rw [List.length_drop] at hm; omega
  have := h.2 (n + m) hm'
  rw [List.getD_eq_getElem?_getD, List.getD_eq_getElem?_getD] at this ⊢
  rwa [List.getElem?_drop, List.getElem?_drop]
theorem flat_take {k : Nat} : ∀ (L : List (List C)) (i : Nat), (∀ x ∈ L, x.length = k) → (L.take i).flatten = L.flatten.take (i * k)
  | _, 0, _ => by simp
  | [], i + 1, _ => by simp
  | x :: r, i + 1, h => by
    have hx := h x (by simp)
    rw [List.take_succ_cons, List.flatten_cons, List.flatten_cons, List.take_append, hx, flat_take r i (fun z hz => h z (by simp [hz])), Nat.succ_mul, List.take_of_length_le (l := x) (by omega), Nat.add_sub_cancel]
theorem flat_drop {k : Nat} : ∀ (L : List (List C)) (i : Nat), (∀ x ∈ L, x.length = k) → (L.drop i).flatten = L.flatten.drop (i * k)
  | _, 0, _ => by simp
  | [], i + 1, _ => by simp
  | x :: r, i + 1, h => by
    have hx := h x (by simp)
    rw [List.drop_succ_cons, List.flatten_cons, List.drop_append, hx, flat_drop r i (fun z hz => h z (by simp [hz])), Nat.succ_mul, List.drop_of_length_le (l := x) (by omega), Nat.add_sub_cancel, List.nil_append]
theorem repCs_one {w : World} {ok : Nat → Prop} {cs : List C} {vs : List Value} (h : RepCs w ok cs vs) : ∀ u ∈ vs, u.oneCell' = true := by
  intro u hu
  obtain ⟨m, hm, rfl⟩ := List.mem_iff_getElem.1 hu
  have := (h.2 m (by rw [← h.1]; exact hm)).oneCell
  rwa [List.getD_eq_getElem?_getD, List.getElem?_eq_getElem hm] at this
theorem del_spec {P : Program} {F : FuncId} {E K : Nat} (hfn : ∃ fn, P.funcs[F]? = some fn ∧ fn.body.isSome = true ∧ (fn.name == "runtime.NumGoroutine") = false)
    (hdel : ∀ (w : World) (b n cap i : Nat) (cur : Array Value), w.heap[b]? = some (.cells cur E (0, 0)) → cur.size = cap * K → i < n → n ≤ cap → cap ≤ maxLen → (∀ u ∈ cur.toList.take (n * K), u.oneCell' = true) →
      Calls P F #[.slice (some ⟨b, 0, none⟩) n cap, .int .i64 (i : Int), .int .i64 ((i + 1 : Nat) : Int)] w fun e w' => e = .returned (.slice (some ⟨b, 0, none⟩) (n - 1) cap) ∧ ∃ cur', w'.heap[b]? = some (.cells cur' E (0, 0)) ∧ cur'.size = cap * K ∧ cur'.toList.take ((n - 1) * K) = cur.toList.take (i * K) ++ (cur.toList.take (n * K)).drop ((i + 1) * K) ∧
        w'.os = w.os ∧ w'.tape = w.tape ∧ w'.output = w.output ∧ w'.heap.size = w.heap.size ∧ ∀ k, k ≠ b → w'.heap[k]? = w.heap[k]?)
    (L : List (List C)) (i : Nat) (hi : i < L.length) :
    SpecG P F [.val (.one (.own E K L)), .val (.one (.c (.int .i64 (i : Int)))), .val (.one (.c (.int .i64 ((i + 1 : Nat) : Int))))] [.one (.own E K (L.eraseIdx i))] [] := by
  refine ⟨hfn, fun w ok vs gs hr hnd hmine hI => ?_⟩
  match vs, hr with
  | [v0, v1, v2], hr =>
    obtain ⟨g1, g2, rfl, ⟨g3, rfl, ⟨vals, hsz, hrow, hcs⟩, hg3⟩, h1, h2, rfl, ⟨hv1, hh1⟩, h3, h4, rfl, ⟨hv2, hh2⟩, h5⟩ := hr
    obtain rfl : g3 = [] := hg3
    obtain rfl : h1 = [] := hh1
    obtain rfl : h3 = [] := hh2
    obtain rfl : h4 = [] := h5
    cases hv1; cases hv2
    have hL0 : L.length ≠ 0 := by omega
    obtain ⟨hvl, hrow⟩ := hrow
    rcases hrow with ⟨_, h0⟩ | ⟨g, cap, cur, rfl, _, hg, hn, hm, hcur, hvals⟩
    · exact absurd h0 hL0
    · have hone : ∀ u ∈ cur.toList.take (L.length * K), u.oneCell' = true := by rw [hvals]; exact repCs_one hcs
      refine (hdel w g L.length cap i cur hg hcur hi hn hm hone).mono ?_
      rintro e w' ⟨rfl, cur', k1, k2, k3, k4, k5, k6, k7, k8⟩
      have hmg : mineOf [Value.slice (some ⟨g, 0, none⟩) L.length cap] g := ⟨_, List.mem_singleton.2 rfl, rfl⟩
      have hmg2 : ∀ b, mineOf ([Value.slice (some ⟨g, 0, none⟩) L.length cap] ++ ([] ++ ([] ++ []))) b → b = g := by
        rintro b ⟨z, hz, hb⟩
        have : z = Value.slice (some ⟨g, 0, none⟩) L.length cap := by simpa using hz
        subst this; simpa [blkOf] using hb.symm
      have hnok : ¬ ok g := hmine g hmg
      refine ⟨[_], [_], [], rfl, ⟨k4, k5, k6, by rw [k7]; exact Nat.le_refl _, fun k _ hk => k8 k (fun e => hk (e ▸ hmg))⟩, ⟨[_], [], rfl, rfl, rfl⟩, trivial, ?_⟩
      have hel : (L.eraseIdx i).length = L.length - 1 := List.length_eraseIdx_of_lt hi
      have hefl : (L.eraseIdx i).flatten = L.flatten.take (i * K) ++ L.flatten.drop ((i + 1) * K) := by
        rw [List.eraseIdx_eq_take_drop_succ, List.flatten_append, flat_take L i hsz, flat_drop L (i + 1) hsz]
      have hcs' : RepCs w ok (L.eraseIdx i).flatten (vals.take (i * K) ++ vals.drop ((i + 1) * K)) := by rw [hefl]; exact (repCs_take hcs _).app (repCs_drop hcs _)
      have hfl : L.flatten.length = L.length * K := by rw [← hcs.1, hvl]
      have hlen : (vals.take (i * K) ++ vals.drop ((i + 1) * K)).length = (L.length - 1) * K := by
        rw [List.length_append, List.length_take, List.length_drop, hvl]
        have a1 : (i + 1) * K ≤ L.length * K := Nat.mul_le_mul_right K (show i + 1 ≤ L.length by omega)
        have a2 : (i + 1) * K = i * K + K := Nat.succ_mul i K
        have a3 : (L.length - 1) * K + K = L.length * K := by rw [← Nat.succ_mul]; congr 1; omega
        omega
      have hrow' : w'.ownsRow 0 E K (.slice (some ⟨g, 0, none⟩) (L.length - 1) cap) (L.eraseIdx i).length (vals.take (i * K) ++ vals.drop ((i + 1) * K)) := by
        refine ⟨by rw [hlen, hel], .inr ⟨g, cap, cur', by rw [hel], Nat.zero_le _, k1, by omega, hm, k2, ?_⟩⟩
        rw [hel, k3, hvals]
        congr 1
        rw [← hvals, List.take_take, Nat.min_eq_left (Nat.mul_le_mul_right K (by omega))]
      refine ⟨rfl, fun m hm => ?_, fun a c b ha hc _ _ => by have ha' : a < 1 := ha; have hc' : c < 1 := hc; omega⟩
      obtain rfl : m = 0 := by have hm' : m < 1 := hm; omega
      refine (show RepR _ _ _ (.own E K (L.eraseIdx i)) (.slice (some ⟨g, 0, none⟩) (L.length - 1) cap) from ⟨vals.take (i * K) ++ vals.drop ((i + 1) * K), fun x hx => hsz x (List.mem_of_mem_eraseIdx hx), hrow', fun b hb => ?_, ?_⟩)
      · have : b = g := by simpa [Value.ownBlock] using hb.symm
        subst this
        exact ⟨.inr hmg, fun p hp => by simp [mutPtrs] at hp⟩
      · refine hcs'.mono (fun b hb hok => ⟨.inl hok, fun j hj => ?_⟩) (by rw [k7]; exact Nat.le_refl _) (fun b _ hok => k8 b (fun e => hnok (e ▸ hok)))
        obtain rfl : j = 0 := by have hj' : j < 1 := hj; omega
        intro e
        have e' : ownOf (.own E K (L.eraseIdx i)) (.slice (some ⟨g, 0, none⟩) (L.length - 1) cap) = some b := e
        have : g = b := by simpa [ownOf, Value.ownBlock] using e'
        exact hnok (this ▸ hok)
end ZT
open ZT
def Tryz.m225 : Mir Tryz.prog 225 (List GAct × Int × Int) (List GAct) where
  fs := [.one (some (47, 32)), .one none, .one none]
  ga := fun x => [.val (.one (.own 47 32 (E.GAct.L x.1))), .val (.one (.c (.int .i64 x.2.1))), .val (.one (.c (.int .i64 x.2.2)))]
  caps := fun x => []
  res := fun y => [.one (.own 47 32 (E.GAct.L y))]
  outs := fun y => []
  R := fun x y => 0 ≤ x.2.1 ∧ x.2.2 = x.2.1 + 1 ∧ x.2.1.toNat < x.1.length ∧ y = x.1.eraseIdx x.2.1.toNat
  ok := fun x y h => by
    obtain ⟨l, i, j⟩ := x
    obtain ⟨h0, h1, h2, rfl⟩ := h
    simp only at h0 h1 h2
    obtain ⟨n, rfl⟩ : ∃ n : Nat, i = (n : Int) := ⟨i.toNat, by omega⟩
    subst h1
    have := del_spec ⟨_, Tryz.func225, by kernel_rfl, by kernel_rfl⟩ del225 (E.GAct.L l) n (by rw [enc_len]; simpa using h2)
    rw [enc_erase] at this
    exact this
  flat := false
  hflat := fun h => nomatch h
def Tryz.m226 : Mir Tryz.prog 226 (List GTimer × Int × Int) (List GTimer) where
  fs := [.one (some (49, 3)), .one none, .one none]
  ga := fun x => [.val (.one (.own 49 3 (E.GTimer.L x.1))), .val (.one (.c (.int .i64 x.2.1))), .val (.one (.c (.int .i64 x.2.2)))]
  caps := fun x => []
  res := fun y => [.one (.own 49 3 (E.GTimer.L y))]
  outs := fun y => []
  R := fun x y => 0 ≤ x.2.1 ∧ x.2.2 = x.2.1 + 1 ∧ x.2.1.toNat < x.1.length ∧ y = x.1.eraseIdx x.2.1.toNat
  ok := fun x y h => by
    obtain ⟨l, i, j⟩ := x
    obtain ⟨h0, h1, h2, rfl⟩ := h
    simp only at h0 h1 h2
    obtain ⟨n, rfl⟩ : ∃ n : Nat, i = (n : Int) := ⟨i.toNat, by omega⟩
    subst h1
    have := del_spec ⟨_, Tryz.func226, by kernel_rfl, by kernel_rfl⟩ del226 (E.GTimer.L l) n (by rw [enc_len]; simpa using h2)
    rw [enc_erase] at this
    exact this
  flat := false
  hflat := fun h => nomatch h
def Tryz.m227 : Mir Tryz.prog 227 (List GSend × Int × Int) (List GSend) where
  fs := [.one (some (53, 4)), .one none, .one none]
  ga := fun x => [.val (.one (.own 53 4 (E.GSend.L x.1))), .val (.one (.c (.int .i64 x.2.1))), .val (.one (.c (.int .i64 x.2.2)))]
  caps := fun x => []
  res := fun y => [.one (.own 53 4 (E.GSend.L y))]
  outs := fun y => []
  R := fun x y => 0 ≤ x.2.1 ∧ x.2.2 = x.2.1 + 1 ∧ x.2.1.toNat < x.1.length ∧ y = x.1.eraseIdx x.2.1.toNat
  ok := fun x y h => by
    obtain ⟨l, i, j⟩ := x
    obtain ⟨h0, h1, h2, rfl⟩ := h
    simp only at h0 h1 h2
    obtain ⟨n, rfl⟩ : ∃ n : Nat, i = (n : Int) := ⟨i.toNat, by omega⟩
    subst h1
    have := del_spec ⟨_, Tryz.func227, by kernel_rfl, by kernel_rfl⟩ del227 (E.GSend.L l) n (by rw [enc_len]; simpa using h2)
    rw [enc_erase] at this
    exact this
  flat := false
  hflat := fun h => nomatch h
def Tryz.m228 : Mir Tryz.prog 228 (List GKid × Int × Int) (List GKid) where
  fs := [.one (some (51, 6)), .one none, .one none]
  ga := fun x => [.val (.one (.own 51 6 (E.GKid.L x.1))), .val (.one (.c (.int .i64 x.2.1))), .val (.one (.c (.int .i64 x.2.2)))]
  caps := fun x => []
  res := fun y => [.one (.own 51 6 (E.GKid.L y))]
  outs := fun y => []
  R := fun x y => 0 ≤ x.2.1 ∧ x.2.2 = x.2.1 + 1 ∧ x.2.1.toNat < x.1.length ∧ y = x.1.eraseIdx x.2.1.toNat
  ok := fun x y h => by
    obtain ⟨l, i, j⟩ := x
    obtain ⟨h0, h1, h2, rfl⟩ := h
    simp only at h0 h1 h2
    obtain ⟨n, rfl⟩ : ∃ n : Nat, i = (n : Int) := ⟨i.toNat, by omega⟩
    subst h1
    have := del_spec ⟨_, Tryz.func228, by kernel_rfl, by kernel_rfl⟩ del228 (E.GKid.L l) n (by rw [enc_len]; simpa using h2)
    rw [enc_erase] at this
    exact this
  flat := false
  hflat := fun h => nomatch h
end Go.Proofs
end
section
set_option maxRecDepth 100000
set_option maxHeartbeats 2000000
namespace Go.Proofs
namespace Tryz
open Go Go.AV
noncomputable def b125 : Code := f125.body.getD .skip
noncomputable def x125 : Cx Empty (List GAct) where
  nt := 8
  rvs := [.tmp 2]
  mh := []
  res := fun y => [.one (.own 47 32 (E.GAct.L y))]
  outs := fun y => []
  path := nofun
  sig := nofun
  snap := nofun
noncomputable def a125 (s_0 : List GAct) : Cert prog Empty (List GAct) :=
 .nilt E.GAct s_0 fun b1 =>
 .ite 4 b1
 (.ret [])
 (.bld E.GAct [] <|
 .app E.GAct 376 [] s_0 <|
 .ret ([] ++ s_0))
noncomputable def c125 : Empty → Cert prog Empty (List GAct) := nofun
theorem h125 (s_0 : List GAct) : tp prog x125 b125 (a125 s_0) (ES.init [.val (.one (.c (.sl (E.GAct.L s_0))))]) :=
  of_triv (rs := x125.rs) (snap := x125.snap) (c := a125 s_0) (by kernel_rfl)
theorem g125 : ∀ j, ck prog x125 b125 c125 j := nofun
noncomputable def m125 : Mir prog 125 (List GAct) (List GAct) where
  fs := [.one none]
  ga := fun x => [.val (.one (.c (.sl (E.GAct.L x))))]
  caps := fun x => []
  res := x125.res
  outs := x125.outs
  R := fun x y => Rn c125 (a125 x) y
  ok := fun x y h => sysA (cx := x125) follow func125 (h125 x) (g125) y h
  flat := false
  hflat := nofun
noncomputable def b126 : Code := f126.body.getD .skip
noncomputable def x126 : Cx Empty (List GTimer) where
  nt := 8
  rvs := [.tmp 2]
  mh := []
  res := fun y => [.one (.own 49 3 (E.GTimer.L y))]
  outs := fun y => []
  path := nofun
  sig := nofun
  snap := nofun
noncomputable def a126 (s_0 : List GTimer) : Cert prog Empty (List GTimer) :=
 .nilt E.GTimer s_0 fun b1 =>
 .ite 4 b1
 (.ret [])
 (.bld E.GTimer [] <|
 .app E.GTimer 24 [] s_0 <|
 .ret ([] ++ s_0))
noncomputable def c126 : Empty → Cert prog Empty (List GTimer) := nofun
theorem h126 (s_0 : List GTimer) : tp prog x126 b126 (a126 s_0) (ES.init [.val (.one (.c (.sl (E.GTimer.L s_0))))]) :=
  of_triv (rs := x126.rs) (snap := x126.snap) (c := a126 s_0) (by kernel_rfl)
theorem g126 : ∀ j, ck prog x126 b126 c126 j := nofun
noncomputable def m126 : Mir prog 126 (List GTimer) (List GTimer) where
  fs := [.one none]
  ga := fun x => [.val (.one (.c (.sl (E.GTimer.L x))))]
  caps := fun x => []
  res := x126.res
  outs := x126.outs
  R := fun x y => Rn c126 (a126 x) y
  ok := fun x y h => sysA (cx := x126) follow func126 (h126 x) (g126) y h
  flat := false
  hflat := nofun
noncomputable def b127 : Code := f127.body.getD .skip
noncomputable def x127 : Cx Empty (List GKid) where
  nt := 8
  rvs := [.tmp 2]
  mh := []
  res := fun y => [.one (.own 51 6 (E.GKid.L y))]
  outs := fun y => []
  path := nofun
  sig := nofun
  snap := nofun
noncomputable def a127 (s_0 : List GKid) : Cert prog Empty (List GKid) :=
 .nilt E.GKid s_0 fun b1 =>
 .ite 4 b1
 (.ret [])
 (.bld E.GKid [] <|
 .app E.GKid 72 [] s_0 <|
 .ret ([] ++ s_0))
noncomputable def c127 : Empty → Cert prog Empty (List GKid) := nofun
theorem h127 (s_0 : List GKid) : tp prog x127 b127 (a127 s_0) (ES.init [.val (.one (.c (.sl (E.GKid.L s_0))))]) :=
  of_triv (rs := x127.rs) (snap := x127.snap) (c := a127 s_0) (by kernel_rfl)
theorem g127 : ∀ j, ck prog x127 b127 c127 j := nofun
noncomputable def m127 : Mir prog 127 (List GKid) (List GKid) where
  fs := [.one none]
  ga := fun x => [.val (.one (.c (.sl (E.GKid.L x))))]
  caps := fun x => []
  res := x127.res
  outs := x127.outs
  R := fun x y => Rn c127 (a127 x) y
  ok := fun x y h => sysA (cx := x127) follow func127 (h127 x) (g127) y h
  flat := false
  hflat := nofun
noncomputable def b128 : Code := f128.body.getD .skip
noncomputable def x128 : Cx Empty (List GSend) where
  nt := 8
  rvs := [.tmp 2]
  mh := []
  res := fun y => [.one (.own 53 4 (E.GSend.L y))]
  outs := fun y => []
  path := nofun
  sig := nofun
  snap := nofun
noncomputable def a128 (s_0 : List GSend) : Cert prog Empty (List GSend) :=
 .nilt E.GSend s_0 fun b1 =>
 .ite 4 b1
 (.ret [])
 (.bld E.GSend [] <|
 .app E.GSend 48 [] s_0 <|
 .ret ([] ++ s_0))
noncomputable def c128 : Empty → Cert prog Empty (List GSend) := nofun
theorem h128 (s_0 : List GSend) : tp prog x128 b128 (a128 s_0) (ES.init [.val (.one (.c (.sl (E.GSend.L s_0))))]) :=
  of_triv (rs := x128.rs) (snap := x128.snap) (c := a128 s_0) (by kernel_rfl)
theorem g128 : ∀ j, ck prog x128 b128 c128 j := nofun
noncomputable def m128 : Mir prog 128 (List GSend) (List GSend) where
  fs := [.one none]
  ga := fun x => [.val (.one (.c (.sl (E.GSend.L x))))]
  caps := fun x => []
  res := x128.res
  outs := x128.outs
  R := fun x y => Rn c128 (a128 x) y
  ok := fun x y h => sysA (cx := x128) follow func128 (h128 x) (g128) y h
  flat := false
  hflat := nofun
noncomputable def b129 : Code := f129.body.getD .skip
noncomputable def x129 : Cx Empty (List GUpd) where
  nt := 8
  rvs := [.tmp 2]
  mh := []
  res := fun y => [.one (.own 118 2 (E.GUpd.L y))]
  outs := fun y => []
  path := nofun
  sig := nofun
  snap := nofun
noncomputable def a129 (s_0 : List GUpd) : Cert prog Empty (List GUpd) :=
 .nilt E.GUpd s_0 fun b1 =>
 .ite 4 b1
 (.ret [])
 (.bld E.GUpd [] <|
 .app E.GUpd 24 [] s_0 <|
 .ret ([] ++ s_0))
noncomputable def c129 : Empty → Cert prog Empty (List GUpd) := nofun
theorem h129 (s_0 : List GUpd) : tp prog x129 b129 (a129 s_0) (ES.init [.val (.one (.c (.sl (E.GUpd.L s_0))))]) :=
  of_triv (rs := x129.rs) (snap := x129.snap) (c := a129 s_0) (by kernel_rfl)
theorem g129 : ∀ j, ck prog x129 b129 c129 j := nofun
noncomputable def m129 : Mir prog 129 (List GUpd) (List GUpd) where
  fs := [.one none]
  ga := fun x => [.val (.one (.c (.sl (E.GUpd.L x))))]
  caps := fun x => []
  res := x129.res
  outs := x129.outs
  R := fun x y => Rn c129 (a129 x) y
  ok := fun x y h => sysA (cx := x129) follow func129 (h129 x) (g129) y h
  flat := false
  hflat := nofun
noncomputable def b189 : Code := f189.body.getD .skip
noncomputable def x189 : Cx Empty (List GAct) where
  nt := 11
  rvs := [.tmp 4]
  mh := []
  res := fun y => [.one (.own 47 32 (E.GAct.L y))]
  outs := fun y => []
  path := nofun
  sig := nofun
  snap := nofun
noncomputable def a189 (l_0 : List GAct) (i_1 : Int) : Cert prog Empty (List GAct) :=
 .call m125 l_0 fun r1 =>
 .call m225 (r1, i_1, (IntKind.i64.wrap (i_1 + 1))) fun r2 =>
 .ret r2
noncomputable def c189 : Empty → Cert prog Empty (List GAct) := nofun
theorem h189 (l_0 : List GAct) (i_1 : Int) : tp prog x189 b189 (a189 l_0 i_1) (ES.init [.val (.one (.c (.sl (E.GAct.L l_0)))), .val (.one (.c (.int .i64 i_1)))]) :=
  of_triv (rs := x189.rs) (snap := x189.snap) (c := a189 l_0 i_1) (by kernel_rfl)
theorem g189 : ∀ j, ck prog x189 b189 c189 j := nofun
noncomputable def m189 : Mir prog 189 ((List GAct) × Int) (List GAct) where
  fs := [.one none, .one none]
  ga := fun x => [.val (.one (.c (.sl (E.GAct.L x.1)))), .val (.one (.c (.int .i64 x.2)))]
  caps := fun x => []
  res := x189.res
  outs := x189.outs
  R := fun x y => Rn c189 (a189 x.1 x.2) y
  ok := fun x y h => sysA (cx := x189) follow func189 (h189 x.1 x.2) (g189) y h
  flat := false
  hflat := nofun
noncomputable def b191 : Code := f191.body.getD .skip
noncomputable def x191 : Cx Empty (List GTimer) where
  nt := 11
  rvs := [.tmp 4]
  mh := []
  res := fun y => [.one (.own 49 3 (E.GTimer.L y))]
  outs := fun y => []
  path := nofun
  sig := nofun
  snap := nofun
noncomputable def a191 (l_0 : List GTimer) (i_1 : Int) : Cert prog Empty (List GTimer) :=
 .call m126 l_0 fun r1 =>
 .call m226 (r1, i_1, (IntKind.i64.wrap (i_1 + 1))) fun r2 =>
 .ret r2
noncomputable def c191 : Empty → Cert prog Empty (List GTimer) := nofun
theorem h191 (l_0 : List GTimer) (i_1 : Int) : tp prog x191 b191 (a191 l_0 i_1) (ES.init [.val (.one (.c (.sl (E.GTimer.L l_0)))), .val (.one (.c (.int .i64 i_1)))]) :=
  of_triv (rs := x191.rs) (snap := x191.snap) (c := a191 l_0 i_1) (by kernel_rfl)
theorem g191 : ∀ j, ck prog x191 b191 c191 j := nofun
noncomputable def m191 : Mir prog 191 ((List GTimer) × Int) (List GTimer) where
  fs := [.one none, .one none]
  ga := fun x => [.val (.one (.c (.sl (E.GTimer.L x.1)))), .val (.one (.c (.int .i64 x.2)))]
  caps := fun x => []
  res := x191.res
  outs := x191.outs
  R := fun x y => Rn c191 (a191 x.1 x.2) y
  ok := fun x y h => sysA (cx := x191) follow func191 (h191 x.1 x.2) (g191) y h
  flat := false
  hflat := nofun
noncomputable def b193 : Code := f193.body.getD .skip
noncomputable def x193 : Cx Empty (List GSend) where
  nt := 11
  rvs := [.tmp 4]
  mh := []
  res := fun y => [.one (.own 53 4 (E.GSend.L y))]
  outs := fun y => []
  path := nofun
  sig := nofun
  snap := nofun
noncomputable def a193 (l_0 : List GSend) (i_1 : Int) : Cert prog Empty (List GSend) :=
 .call m128 l_0 fun r1 =>
 .call m227 (r1, i_1, (IntKind.i64.wrap (i_1 + 1))) fun r2 =>
 .ret r2
noncomputable def c193 : Empty → Cert prog Empty (List GSend) := nofun
theorem h193 (l_0 : List GSend) (i_1 : Int) : tp prog x193 b193 (a193 l_0 i_1) (ES.init [.val (.one (.c (.sl (E.GSend.L l_0)))), .val (.one (.c (.int .i64 i_1)))]) :=
  of_triv (rs := x193.rs) (snap := x193.snap) (c := a193 l_0 i_1) (by kernel_rfl)
theorem g193 : ∀ j, ck prog x193 b193 c193 j := nofun
noncomputable def m193 : Mir prog 193 ((List GSend) × Int) (List GSend) where
  fs := [.one none, .one none]
  ga := fun x => [.val (.one (.c (.sl (E.GSend.L x.1)))), .val (.one (.c (.int .i64 x.2)))]
  caps := fun x => []
  res := x193.res
  outs := x193.outs
  R := fun x y => Rn c193 (a193 x.1 x.2) y
  ok := fun x y h => sysA (cx := x193) follow func193 (h193 x.1 x.2) (g193) y h
  flat := false
  hflat := nofun
noncomputable def b195 : Code := f195.body.getD .skip
noncomputable def x195 : Cx Empty (List GKid) where
  nt := 11
  rvs := [.tmp 4]
  mh := []
  res := fun y => [.one (.own 51 6 (E.GKid.L y))]
  outs := fun y => []
  path := nofun
  sig := nofun
  snap := nofun
noncomputable def a195 (l_0 : List GKid) (i_1 : Int) : Cert prog Empty (List GKid) :=
 .call m127 l_0 fun r1 =>
 .call m228 (r1, i_1, (IntKind.i64.wrap (i_1 + 1))) fun r2 =>
 .ret r2
noncomputable def c195 : Empty → Cert prog Empty (List GKid) := nofun
theorem h195 (l_0 : List GKid) (i_1 : Int) : tp prog x195 b195 (a195 l_0 i_1) (ES.init [.val (.one (.c (.sl (E.GKid.L l_0)))), .val (.one (.c (.int .i64 i_1)))]) :=
  of_triv (rs := x195.rs) (snap := x195.snap) (c := a195 l_0 i_1) (by kernel_rfl)
theorem g195 : ∀ j, ck prog x195 b195 c195 j := nofun
noncomputable def m195 : Mir prog 195 ((List GKid) × Int) (List GKid) where
  fs := [.one none, .one none]
  ga := fun x => [.val (.one (.c (.sl (E.GKid.L x.1)))), .val (.one (.c (.int .i64 x.2)))]
  caps := fun x => []
  res := x195.res
  outs := x195.outs
  R := fun x y => Rn c195 (a195 x.1 x.2) y
  ok := fun x y h => sysA (cx := x195) follow func195 (h195 x.1 x.2) (g195) y h
  flat := false
  hflat := nofun
noncomputable def b69 : Code := f69.body.getD .skip
noncomputable def x69 : Cx Empty GAct where
  nt := 18
  rvs := [.cell 2 47]
  mh := []
  res := fun y => [.agg (((((((GAct.cs y).map R.c).set 6 (.own 28 5 (E.GVal.L y.Data.Items))).set 7 (.own 9 1 (E.str.L y.Data.Keys))).set 17 (.own 9 1 (E.str.L y.Opts.Fatal))).set 29 (.own 28 5 (E.GVal.L y.Details.Items))).set 30 (.own 9 1 (E.str.L y.Details.Keys)))]
  outs := fun y => []
  path := nofun
  sig := nofun
  snap := nofun
noncomputable def a69 (a_0 : GAct) : Cert prog Empty GAct :=
 .call m117 a_0.Data fun r1 =>
 .call m117 a_0.Details fun r2 =>
 .call m130 a_0.Opts.Fatal fun r3 =>
 .ret (GAct.mk a_0.Seq a_0.Event a_0.Name r1 (GPolicy.mk a_0.Opts.Queue a_0.Opts.ToStart a_0.Opts.ToClose a_0.Opts.Total a_0.Opts.Beat a_0.Opts.First a_0.Opts.Coef a_0.Opts.Most a_0.Opts.Attempts r3) a_0.State a_0.Attempt a_0.Scheduled a_0.Due a_0.Started a_0.LastBeat a_0.Token a_0.Cancel r2 a_0.Failure)
noncomputable def c69 : Empty → Cert prog Empty GAct := nofun
theorem h69 (a_0 : GAct) : tp prog x69 b69 (a69 a_0) (ES.init [.val (.agg ((GAct.cs a_0).map R.c))]) :=
  of_triv (rs := x69.rs) (snap := x69.snap) (c := a69 a_0) (by kernel_rfl)
theorem g69 : ∀ j, ck prog x69 b69 c69 j := nofun
noncomputable def m69 : Mir prog 69 GAct GAct where
  fs := [.agg (List.replicate 32 none)]
  ga := fun x => [.val (.agg ((GAct.cs x).map R.c))]
  caps := fun x => []
  res := x69.res
  outs := x69.outs
  R := fun x y => Rn c69 (a69 x) y
  ok := fun x y h => sysA (cx := x69) follow func69 (h69 x) (g69) y h
  flat := false
  hflat := nofun
inductive J62 where
| s0 (p_t1 : GPending) (t2 : GPending) (t18 : Int) (t19 : Int)
noncomputable def b62 : Code := f62.body.getD .skip
noncomputable def x62 : Cx J62 GPending where
  nt := 54
  rvs := [.cell 2 35]
  mh := []
  res := fun y => [.agg ((((((((((((GPending.cs y).map R.c).set 10 (.own 28 5 (E.GVal.L y.Input.Items))).set 11 (.own 9 1 (E.str.L y.Input.Keys))).set 15 (.own 28 5 (E.GVal.L y.Attrs.Items))).set 16 (.own 9 1 (E.str.L y.Attrs.Keys))).set 18 (.own 47 32 (E.GAct.L y.Acts))).set 19 (.own 49 3 (E.GTimer.L y.Timers))).set 20 (.own 51 6 (E.GKid.L y.Kids))).set 21 (.own 53 4 (E.GSend.L y.Sends))).set 22 (.own 118 2 (E.GUpd.L y.Updates))).set 23 (.own 9 1 (E.str.L y.Requests)))]
  outs := fun y => []
  path := fun
    | .s0 _ _ _ _ => [0, 1, 0, 1, 1, 1]
  sig := fun
    | .s0 _ _ _ _ => [1, 2, 18, 19]
  snap := fun
    | .s0 p_t1 t2 t18 t19 => ⟨[(1, .one (.ptr 0 1 0)), (2, .one (.ptr 6 1 0)), (18, .one (.c (.int .i64 t18))), (19, .one (.c (.int .i64 t19)))], [((0, 1), .box (((((((GPending.cs p_t1).map A.c).set 10 (.own 1 1)).set 11 (.own 2 1)).set 15 (.own 3 1)).set 16 (.own 4 1)).set 18 (.own 5 1))), ((1, 1), .arr 28 5 (E.GVal.L p_t1.Input.Items)), ((2, 1), .arr 9 1 (E.str.L p_t1.Input.Keys)), ((3, 1), .arr 28 5 (E.GVal.L p_t1.Attrs.Items)), ((4, 1), .arr 9 1 (E.str.L p_t1.Attrs.Keys)), ((5, 1), .arr 47 32 (E.GAct.L p_t1.Acts)), ((6, 1), .box ((((((((((((GPending.cs t2).map A.c).set 10 .nil).set 11 .nil).set 15 .nil).set 16 .nil).set 18 .nil).set 19 .nil).set 20 .nil).set 21 .nil).set 22 .nil).set 23 .nil))]⟩
noncomputable def a62 (p_0 : GPending) : Cert prog J62 GPending :=
 .call m117 p_0.Input fun r1 =>
 .call m117 p_0.Attrs fun r2 =>
 .call m125 p_0.Acts fun r3 =>
 .len E.GAct r3 <|
 .jump (.s0 (GPending.mk p_0.Next p_0.Status p_0.Task p_0.TaskID p_0.Attempt p_0.Seq p_0.Name r1 r2 p_0.Cancel r3 p_0.Timers p_0.Kids p_0.Sends p_0.Updates p_0.Requests) zP (r3.length : Int) 0) [(1000, 1), (6003, 1), (6004, 1), (9003, 1), (9004, 1), (14000, 1), (2000, 1)]
noncomputable def c62 : J62 → Cert prog J62 GPending
| .s0 p_t1 t2 t18 t19 =>
 .ite 20 (decide (t19 < t18))
 (.idx E.GAct p_t1.Acts t19 <|
 .eget E.GAct p_t1.Acts t19.toNat fun a4 =>
 .call (m69).weak a4 fun r5 =>
 .idx E.GAct p_t1.Acts t19 <|
 .eset E.GAct p_t1.Acts t19.toNat (fun _ => r5) <|
 .jump (.s0 (GPending.mk p_t1.Next p_t1.Status p_t1.Task p_t1.TaskID p_t1.Attempt p_t1.Seq p_t1.Name p_t1.Input p_t1.Attrs p_t1.Cancel (p_t1.Acts.modify t19.toNat (fun _ => r5)) p_t1.Timers p_t1.Kids p_t1.Sends p_t1.Updates p_t1.Requests) (nP t2) t18 (IntKind.i64.wrap (t19 + 1))) [(0, 1), (1, 1), (2, 1), (3, 1), (4, 1), (5, 1), (6, 1)])
 (.call m126 p_t1.Timers fun r7 =>
 .call m127 p_t1.Kids fun r8 =>
 .call m128 p_t1.Sends fun r9 =>
 .call m129 p_t1.Updates fun r10 =>
 .call m130 p_t1.Requests fun r11 =>
 .ret (GPending.mk p_t1.Next p_t1.Status p_t1.Task p_t1.TaskID p_t1.Attempt p_t1.Seq p_t1.Name p_t1.Input p_t1.Attrs p_t1.Cancel p_t1.Acts r7 r8 r9 r10 r11))
theorem h62 (p_0 : GPending) : tp prog x62 b62 (a62 p_0) (ES.init [.val (.agg ((GPending.cs p_0).map R.c))]) :=
  of_triv (rs := x62.rs) (snap := x62.snap) (c := a62 p_0) (by kernel_rfl)
theorem g62 : ∀ j, ck prog x62 b62 c62 j
| .s0 p_t1 t2 t18 t19 => of_triv (rs := x62.rs) (snap := x62.snap) (c := c62 (.s0 p_t1 t2 t18 t19)) (by kernel_rfl)
noncomputable def m62 : Mir prog 62 GPending GPending where
  fs := [.agg (List.replicate 24 none)]
  ga := fun x => [.val (.agg ((GPending.cs x).map R.c))]
  caps := fun x => []
  res := x62.res
  outs := x62.outs
  R := fun x y => Rn c62 (a62 x) y
  ok := fun x y h => sysA (cx := x62) follow func62 (h62 x) (g62) y h
  flat := false
  hflat := nofun
inductive J141 where
| s0 (s_t0 : List ByteArray) (v_t1 : ByteArray) (t7 : Int) (t8 : Int)
noncomputable def b141 : Code := f141.body.getD .skip
noncomputable def x141 : Cx J141 Int where
  nt := 19
  rvs := [.tmp 4]
  mh := []
  res := fun y => [.one (.c (.int .i64 y))]
  outs := fun y => []
  path := fun
    | .s0 _ _ _ _ => [0, 1, 0, 1]
  sig := fun
    | .s0 _ _ _ _ => [0, 1, 7, 8]
  snap := fun
    | .s0 s_t0 v_t1 t7 t8 => ⟨[(0, .one (.c (.sl (E.str.L s_t0)))), (1, .one (.c (.str v_t1))), (7, .one (.c (.int .i64 t7))), (8, .one (.c (.int .i64 t8)))], []⟩
noncomputable def a141 (s_0 : List ByteArray) (v_1 : ByteArray) : Cert prog J141 Int :=
 .len E.str s_0 <|
 .jump (.s0 s_0 v_1 (s_0.length : Int) 0) []
noncomputable def c141 : J141 → Cert prog J141 Int
| .s0 s_t0 v_t1 t7 t8 =>
 .ite 9 (decide (t8 < t7))
 (.elem E.str s_t0 t8 fun a1 =>
 .ite 16 (strEq v_t1 a1)
 (.ret t8)
 (.jump (.s0 s_t0 v_t1 t7 (IntKind.i64.wrap (t8 + 1))) []))
 (.ret (-1))
theorem h141 (s_0 : List ByteArray) (v_1 : ByteArray) : tp prog x141 b141 (a141 s_0 v_1) (ES.init [.val (.one (.c (.sl (E.str.L s_0)))), .val (.one (.c (.str v_1)))]) :=
  of_triv (rs := x141.rs) (snap := x141.snap) (c := a141 s_0 v_1) (by kernel_rfl)
theorem g141 : ∀ j, ck prog x141 b141 c141 j
| .s0 s_t0 v_t1 t7 t8 => of_triv (rs := x141.rs) (snap := x141.snap) (c := c141 (.s0 s_t0 v_t1 t7 t8)) (by kernel_rfl)
noncomputable def m141 : Mir prog 141 ((List ByteArray) × ByteArray) Int where
  fs := [.one none, .one none]
  ga := fun x => [.val (.one (.c (.sl (E.str.L x.1)))), .val (.one (.c (.str x.2)))]
  caps := fun x => []
  res := x141.res
  outs := x141.outs
  R := fun x y => Rn c141 (a141 x.1 x.2) y
  ok := fun x y h => sysA (cx := x141) follow func141 (h141 x.1 x.2) (g141) y h
  flat := true
  hflat := fun _ _ => flatE rfl
noncomputable def b81 : Code := f81.body.getD .skip
noncomputable def x81 : Cx Empty Bool where
  nt := 9
  rvs := [.tmp 4]
  mh := []
  res := fun y => [.one (.c (.bool y))]
  outs := fun y => []
  path := nofun
  sig := nofun
  snap := nofun
noncomputable def a81 (s_0 : List ByteArray) (v_1 : ByteArray) : Cert prog Empty Bool :=
 .call m141 (s_0, v_1) fun r1 =>
 .ret (decide (0 ≤ r1))
noncomputable def c81 : Empty → Cert prog Empty Bool := nofun
theorem h81 (s_0 : List ByteArray) (v_1 : ByteArray) : tp prog x81 b81 (a81 s_0 v_1) (ES.init [.val (.one (.c (.sl (E.str.L s_0)))), .val (.one (.c (.str v_1)))]) :=
  of_triv (rs := x81.rs) (snap := x81.snap) (c := a81 s_0 v_1) (by kernel_rfl)
theorem g81 : ∀ j, ck prog x81 b81 c81 j := nofun
noncomputable def m81 : Mir prog 81 ((List ByteArray) × ByteArray) Bool where
  fs := [.one none, .one none]
  ga := fun x => [.val (.one (.c (.sl (E.str.L x.1)))), .val (.one (.c (.str x.2)))]
  caps := fun x => []
  res := x81.res
  outs := x81.outs
  R := fun x y => Rn c81 (a81 x.1 x.2) y
  ok := fun x y h => sysA (cx := x81) follow func81 (h81 x.1 x.2) (g81) y h
  flat := true
  hflat := fun _ _ => flatE rfl
abbrev Clo100 : Type := Clo prog GAct Bool [.agg (List.replicate 32 none)] (fun x => [.val (.agg ((GAct.cs x).map R.c))]) (fun y => [.one (.c (.bool y))])
noncomputable def clo100 (c : Clo100) := Clo.mir c true (fun _ _ => flatE rfl)
inductive J77 where
| s0 (is_t1 : Clo100) (t7 : List GAct) (t8 : Int) (t9 : Int)
noncomputable def b77 : Code := f77.body.getD .skip
noncomputable def x77 : Cx J77 Int where
  nt := 19
  rvs := [.tmp 4]
  mh := []
  res := fun y => [.one (.c (.int .i64 y))]
  outs := fun y => []
  path := fun
    | .s0 _ _ _ _ => [0, 1, 0, 1]
  sig := fun
    | .s0 _ _ _ _ => [1, 7, 8, 9]
  snap := fun
    | .s0 is_t1 t7 t8 t9 => ⟨[(1, .one (.c (.fn is_t1.f is_t1.caps))), (7, .one (.c (.sl (E.GAct.L t7)))), (8, .one (.c (.int .i64 t8))), (9, .one (.c (.int .i64 t9)))], []⟩
noncomputable def a77 (l_0 : List GAct) (is_1 : Clo100) : Cert prog J77 Int :=
 .len E.GAct l_0 <|
 .jump (.s0 is_1 l_0 (l_0.length : Int) 0) []
noncomputable def c77 : J77 → Cert prog J77 Int
| .s0 is_t1 t7 t8 t9 =>
 .ite 10 (decide (t9 < t8))
 (.elem E.GAct t7 t9 fun a1 =>
 .call (clo100 is_t1) a1 fun r2 =>
 .ite 16 r2
 (.ret t9)
 (.jump (.s0 is_t1 t7 t8 (IntKind.i64.wrap (t9 + 1))) []))
 (.ret (-1))
theorem h77 (l_0 : List GAct) (is_1 : Clo100) : tp prog x77 b77 (a77 l_0 is_1) (ES.init [.val (.one (.c (.sl (E.GAct.L l_0)))), .val (.one (.c (.fn is_1.f is_1.caps)))]) :=
  of_triv (rs := x77.rs) (snap := x77.snap) (c := a77 l_0 is_1) (by kernel_rfl)
theorem g77 : ∀ j, ck prog x77 b77 c77 j
| .s0 is_t1 t7 t8 t9 => of_triv (rs := x77.rs) (snap := x77.snap) (c := c77 (.s0 is_t1 t7 t8 t9)) (by kernel_rfl)
noncomputable def m77 : Mir prog 77 ((List GAct) × Clo100) Int where
  fs := [.one none, .one none]
  ga := fun x => [.val (.one (.c (.sl (E.GAct.L x.1)))), .val (.one (.c (.fn x.2.f x.2.caps)))]
  caps := fun x => []
  res := x77.res
  outs := x77.outs
  R := fun x y => Rn c77 (a77 x.1 x.2) y
  ok := fun x y h => sysA (cx := x77) follow func77 (h77 x.1 x.2) (g77) y h
  flat := true
  hflat := fun _ _ => flatE rfl
abbrev Clo103 : Type := Clo prog GTimer Bool [.agg (List.replicate 3 none)] (fun x => [.val (.agg ((GTimer.cs x).map R.c))]) (fun y => [.one (.c (.bool y))])
noncomputable def clo103 (c : Clo103) := Clo.mir c true (fun _ _ => flatE rfl)
inductive J138 where
| s0 (is_t1 : Clo103) (t7 : List GTimer) (t8 : Int) (t9 : Int)
noncomputable def b138 : Code := f138.body.getD .skip
noncomputable def x138 : Cx J138 Int where
  nt := 19
  rvs := [.tmp 4]
  mh := []
  res := fun y => [.one (.c (.int .i64 y))]
  outs := fun y => []
  path := fun
    | .s0 _ _ _ _ => [0, 1, 0, 1]
  sig := fun
    | .s0 _ _ _ _ => [1, 7, 8, 9]
  snap := fun
    | .s0 is_t1 t7 t8 t9 => ⟨[(1, .one (.c (.fn is_t1.f is_t1.caps))), (7, .one (.c (.sl (E.GTimer.L t7)))), (8, .one (.c (.int .i64 t8))), (9, .one (.c (.int .i64 t9)))], []⟩
noncomputable def a138 (l_0 : List GTimer) (is_1 : Clo103) : Cert prog J138 Int :=
 .len E.GTimer l_0 <|
 .jump (.s0 is_1 l_0 (l_0.length : Int) 0) []
noncomputable def c138 : J138 → Cert prog J138 Int
| .s0 is_t1 t7 t8 t9 =>
 .ite 10 (decide (t9 < t8))
 (.elem E.GTimer t7 t9 fun a1 =>
 .call (clo103 is_t1) a1 fun r2 =>
 .ite 16 r2
 (.ret t9)
 (.jump (.s0 is_t1 t7 t8 (IntKind.i64.wrap (t9 + 1))) []))
 (.ret (-1))
theorem h138 (l_0 : List GTimer) (is_1 : Clo103) : tp prog x138 b138 (a138 l_0 is_1) (ES.init [.val (.one (.c (.sl (E.GTimer.L l_0)))), .val (.one (.c (.fn is_1.f is_1.caps)))]) :=
  of_triv (rs := x138.rs) (snap := x138.snap) (c := a138 l_0 is_1) (by kernel_rfl)
theorem g138 : ∀ j, ck prog x138 b138 c138 j
| .s0 is_t1 t7 t8 t9 => of_triv (rs := x138.rs) (snap := x138.snap) (c := c138 (.s0 is_t1 t7 t8 t9)) (by kernel_rfl)
noncomputable def m138 : Mir prog 138 ((List GTimer) × Clo103) Int where
  fs := [.one none, .one none]
  ga := fun x => [.val (.one (.c (.sl (E.GTimer.L x.1)))), .val (.one (.c (.fn x.2.f x.2.caps)))]
  caps := fun x => []
  res := x138.res
  outs := x138.outs
  R := fun x y => Rn c138 (a138 x.1 x.2) y
  ok := fun x y h => sysA (cx := x138) follow func138 (h138 x.1 x.2) (g138) y h
  flat := true
  hflat := fun _ _ => flatE rfl
abbrev Clo107 : Type := Clo prog GSend Bool [.agg (List.replicate 4 none)] (fun x => [.val (.agg ((GSend.cs x).map R.c))]) (fun y => [.one (.c (.bool y))])
noncomputable def clo107 (c : Clo107) := Clo.mir c true (fun _ _ => flatE rfl)
inductive J140 where
| s0 (is_t1 : Clo107) (t7 : List GSend) (t8 : Int) (t9 : Int)
noncomputable def b140 : Code := f140.body.getD .skip
noncomputable def x140 : Cx J140 Int where
  nt := 19
  rvs := [.tmp 4]
  mh := []
  res := fun y => [.one (.c (.int .i64 y))]
  outs := fun y => []
  path := fun
    | .s0 _ _ _ _ => [0, 1, 0, 1]
  sig := fun
    | .s0 _ _ _ _ => [1, 7, 8, 9]
  snap := fun
    | .s0 is_t1 t7 t8 t9 => ⟨[(1, .one (.c (.fn is_t1.f is_t1.caps))), (7, .one (.c (.sl (E.GSend.L t7)))), (8, .one (.c (.int .i64 t8))), (9, .one (.c (.int .i64 t9)))], []⟩
noncomputable def a140 (l_0 : List GSend) (is_1 : Clo107) : Cert prog J140 Int :=
 .len E.GSend l_0 <|
 .jump (.s0 is_1 l_0 (l_0.length : Int) 0) []
noncomputable def c140 : J140 → Cert prog J140 Int
| .s0 is_t1 t7 t8 t9 =>
 .ite 10 (decide (t9 < t8))
 (.elem E.GSend t7 t9 fun a1 =>
 .call (clo107 is_t1) a1 fun r2 =>
 .ite 16 r2
 (.ret t9)
 (.jump (.s0 is_t1 t7 t8 (IntKind.i64.wrap (t9 + 1))) []))
 (.ret (-1))
theorem h140 (l_0 : List GSend) (is_1 : Clo107) : tp prog x140 b140 (a140 l_0 is_1) (ES.init [.val (.one (.c (.sl (E.GSend.L l_0)))), .val (.one (.c (.fn is_1.f is_1.caps)))]) :=
  of_triv (rs := x140.rs) (snap := x140.snap) (c := a140 l_0 is_1) (by kernel_rfl)
theorem g140 : ∀ j, ck prog x140 b140 c140 j
| .s0 is_t1 t7 t8 t9 => of_triv (rs := x140.rs) (snap := x140.snap) (c := c140 (.s0 is_t1 t7 t8 t9)) (by kernel_rfl)
noncomputable def m140 : Mir prog 140 ((List GSend) × Clo107) Int where
  fs := [.one none, .one none]
  ga := fun x => [.val (.one (.c (.sl (E.GSend.L x.1)))), .val (.one (.c (.fn x.2.f x.2.caps)))]
  caps := fun x => []
  res := x140.res
  outs := x140.outs
  R := fun x y => Rn c140 (a140 x.1 x.2) y
  ok := fun x y h => sysA (cx := x140) follow func140 (h140 x.1 x.2) (g140) y h
  flat := true
  hflat := fun _ _ => flatE rfl
abbrev Clo105 : Type := Clo prog GKid Bool [.agg (List.replicate 6 none)] (fun x => [.val (.agg ((GKid.cs x).map R.c))]) (fun y => [.one (.c (.bool y))])
noncomputable def clo105 (c : Clo105) := Clo.mir c true (fun _ _ => flatE rfl)
inductive J139 where
| s0 (is_t1 : Clo105) (t7 : List GKid) (t8 : Int) (t9 : Int)
noncomputable def b139 : Code := f139.body.getD .skip
noncomputable def x139 : Cx J139 Int where
  nt := 19
  rvs := [.tmp 4]
  mh := []
  res := fun y => [.one (.c (.int .i64 y))]
  outs := fun y => []
  path := fun
    | .s0 _ _ _ _ => [0, 1, 0, 1]
  sig := fun
    | .s0 _ _ _ _ => [1, 7, 8, 9]
  snap := fun
    | .s0 is_t1 t7 t8 t9 => ⟨[(1, .one (.c (.fn is_t1.f is_t1.caps))), (7, .one (.c (.sl (E.GKid.L t7)))), (8, .one (.c (.int .i64 t8))), (9, .one (.c (.int .i64 t9)))], []⟩
noncomputable def a139 (l_0 : List GKid) (is_1 : Clo105) : Cert prog J139 Int :=
 .len E.GKid l_0 <|
 .jump (.s0 is_1 l_0 (l_0.length : Int) 0) []
noncomputable def c139 : J139 → Cert prog J139 Int
| .s0 is_t1 t7 t8 t9 =>
 .ite 10 (decide (t9 < t8))
 (.elem E.GKid t7 t9 fun a1 =>
 .call (clo105 is_t1) a1 fun r2 =>
 .ite 16 r2
 (.ret t9)
 (.jump (.s0 is_t1 t7 t8 (IntKind.i64.wrap (t9 + 1))) []))
 (.ret (-1))
theorem h139 (l_0 : List GKid) (is_1 : Clo105) : tp prog x139 b139 (a139 l_0 is_1) (ES.init [.val (.one (.c (.sl (E.GKid.L l_0)))), .val (.one (.c (.fn is_1.f is_1.caps)))]) :=
  of_triv (rs := x139.rs) (snap := x139.snap) (c := a139 l_0 is_1) (by kernel_rfl)
theorem g139 : ∀ j, ck prog x139 b139 c139 j
| .s0 is_t1 t7 t8 t9 => of_triv (rs := x139.rs) (snap := x139.snap) (c := c139 (.s0 is_t1 t7 t8 t9)) (by kernel_rfl)
noncomputable def m139 : Mir prog 139 ((List GKid) × Clo105) Int where
  fs := [.one none, .one none]
  ga := fun x => [.val (.one (.c (.sl (E.GKid.L x.1)))), .val (.one (.c (.fn x.2.f x.2.caps)))]
  caps := fun x => []
  res := x139.res
  outs := x139.outs
  R := fun x y => Rn c139 (a139 x.1 x.2) y
  ok := fun x y h => sysA (cx := x139) follow func139 (h139 x.1 x.2) (g139) y h
  flat := true
  hflat := fun _ _ => flatE rfl
abbrev Clo173 : Type := Clo prog GUpd Bool [.agg (List.replicate 2 none)] (fun x => [.val (.agg ((GUpd.cs x).map R.c))]) (fun y => [.one (.c (.bool y))])
noncomputable def clo173 (c : Clo173) := Clo.mir c true (fun _ _ => flatE rfl)
inductive J196 where
| s0 (is_t1 : Clo173) (t7 : List GUpd) (t8 : Int) (t9 : Int)
noncomputable def b196 : Code := f196.body.getD .skip
noncomputable def x196 : Cx J196 Int where
  nt := 19
  rvs := [.tmp 4]
  mh := []
  res := fun y => [.one (.c (.int .i64 y))]
  outs := fun y => []
  path := fun
    | .s0 _ _ _ _ => [0, 1, 0, 1]
  sig := fun
    | .s0 _ _ _ _ => [1, 7, 8, 9]
  snap := fun
    | .s0 is_t1 t7 t8 t9 => ⟨[(1, .one (.c (.fn is_t1.f is_t1.caps))), (7, .one (.c (.sl (E.GUpd.L t7)))), (8, .one (.c (.int .i64 t8))), (9, .one (.c (.int .i64 t9)))], []⟩
noncomputable def a196 (l_0 : List GUpd) (is_1 : Clo173) : Cert prog J196 Int :=
 .len E.GUpd l_0 <|
 .jump (.s0 is_1 l_0 (l_0.length : Int) 0) []
noncomputable def c196 : J196 → Cert prog J196 Int
| .s0 is_t1 t7 t8 t9 =>
 .ite 10 (decide (t9 < t8))
 (.elem E.GUpd t7 t9 fun a1 =>
 .call (clo173 is_t1) a1 fun r2 =>
 .ite 16 r2
 (.ret t9)
 (.jump (.s0 is_t1 t7 t8 (IntKind.i64.wrap (t9 + 1))) []))
 (.ret (-1))
theorem h196 (l_0 : List GUpd) (is_1 : Clo173) : tp prog x196 b196 (a196 l_0 is_1) (ES.init [.val (.one (.c (.sl (E.GUpd.L l_0)))), .val (.one (.c (.fn is_1.f is_1.caps)))]) :=
  of_triv (rs := x196.rs) (snap := x196.snap) (c := a196 l_0 is_1) (by kernel_rfl)
theorem g196 : ∀ j, ck prog x196 b196 c196 j
| .s0 is_t1 t7 t8 t9 => of_triv (rs := x196.rs) (snap := x196.snap) (c := c196 (.s0 is_t1 t7 t8 t9)) (by kernel_rfl)
noncomputable def m196 : Mir prog 196 ((List GUpd) × Clo173) Int where
  fs := [.one none, .one none]
  ga := fun x => [.val (.one (.c (.sl (E.GUpd.L x.1)))), .val (.one (.c (.fn x.2.f x.2.caps)))]
  caps := fun x => []
  res := x196.res
  outs := x196.outs
  R := fun x y => Rn c196 (a196 x.1 x.2) y
  ok := fun x y h => sysA (cx := x196) follow func196 (h196 x.1 x.2) (g196) y h
  flat := true
  hflat := fun _ _ => flatE rfl
noncomputable def b60 : Code := f60.body.getD .skip
noncomputable def x60 : Cx Empty (GPending × Int) where
  nt := 24
  rvs := [.cell 2 35, .tmp 3]
  mh := []
  res := fun y => [.agg ((((GPending.cs y.1).map R.c).set 10 (.own 28 5 (E.GVal.L y.1.Input.Items))).set 11 (.own 9 1 (E.str.L y.1.Input.Keys))), .one (.c (.int .i64 y.2))]
  outs := fun y => []
  path := nofun
  sig := nofun
  snap := nofun
noncomputable def a60 (e_0 : GEvent) : Cert prog Empty (GPending × Int) :=
 .ite 7 (e_0.Kind != 1)
 (.ret (zP, 11))
 (.call m61 e_0 fun r1 =>
 .ite 11 (!r1)
 (.ret (zP, 11))
 (.ite 15 (e_0.ID != 1)
 (.ret (zP, 30))
 (.call m117 e_0.Data fun r2 =>
 .ret ((GPending.mk 2 0 0 0 0 0 e_0.Name r2 (GVal.mk 5 0 eB [] []) false [] [] [] [] [] []), 0))))
noncomputable def c60 : Empty → Cert prog Empty (GPending × Int) := nofun
theorem h60 (e_0 : GEvent) : tp prog x60 b60 (a60 e_0) (ES.init [.val (.agg ((GEvent.cs e_0).map R.c))]) :=
  of_triv (rs := x60.rs) (snap := x60.snap) (c := a60 e_0) (by kernel_rfl)
theorem g60 : ∀ j, ck prog x60 b60 c60 j := nofun
noncomputable def m60 : Mir prog 60 GEvent (GPending × Int) where
  fs := [.agg (List.replicate 24 none)]
  ga := fun x => [.val (.agg ((GEvent.cs x).map R.c))]
  caps := fun x => []
  res := x60.res
  outs := x60.outs
  R := fun x y => Rn c60 (a60 x) y
  ok := fun x y h => sysA (cx := x60) follow func60 (h60 x) (g60) y h
  flat := false
  hflat := nofun
noncomputable def b131 : Code := f131.body.getD .skip
noncomputable def x131 : Cx Empty (Int × GPending) where
  nt := 77
  rvs := [.tmp 4]
  mh := [0]
  res := fun y => [.one (.c (.int .i64 y.1))]
  outs := fun y => [(((((((((((GPending.cs y.2).map R.c).set 10 (.own 28 5 (E.GVal.L y.2.Input.Items))).set 11 (.own 9 1 (E.str.L y.2.Input.Keys))).set 15 (.own 28 5 (E.GVal.L y.2.Attrs.Items))).set 16 (.own 9 1 (E.str.L y.2.Attrs.Keys))).set 18 (.own 47 32 (E.GAct.L y.2.Acts))).set 19 (.own 49 3 (E.GTimer.L y.2.Timers))).set 20 (.own 51 6 (E.GKid.L y.2.Kids))).set 21 (.own 53 4 (E.GSend.L y.2.Sends))).set 22 (.own 118 2 (E.GUpd.L y.2.Updates))).set 23 (.own 9 1 (E.str.L y.2.Requests))]
  path := nofun
  sig := nofun
  snap := nofun
noncomputable def a131 (p_0 : GPending) (e_1 : GEvent) : Cert prog Empty (Int × GPending) :=
 .ite 33 (e_1.Kind == 2)
 (.ite 39 (p_0.Task != 0)
 (.ret (16, p_0))
 (.ret (0, (GPending.mk p_0.Next p_0.Status 1 e_1.ID e_1.N p_0.Seq p_0.Name p_0.Input p_0.Attrs p_0.Cancel p_0.Acts p_0.Timers p_0.Kids p_0.Sends p_0.Updates p_0.Requests))))
 (.ite 53 (e_1.Kind == 3)
 (.ite 60 (p_0.Task != 1)
 (.ret (16, p_0))
 (.ite 68 (e_1.Ref != p_0.TaskID)
 (.ret (16, p_0))
 (.ret (0, (GPending.mk p_0.Next p_0.Status 2 e_1.ID p_0.Attempt p_0.Seq p_0.Name p_0.Input p_0.Attrs p_0.Cancel p_0.Acts p_0.Timers p_0.Kids p_0.Sends p_0.Updates p_0.Requests)))))
 (.ite 12 (p_0.Task != 2)
 (.ret (16, p_0))
 (.ite 20 (e_1.Ref != p_0.TaskID)
 (.ret (16, p_0))
 (.ite 29 (e_1.Kind == 4)
 (.ret (0, (GPending.mk p_0.Next p_0.Status 0 0 0 p_0.Seq p_0.Name p_0.Input p_0.Attrs p_0.Cancel p_0.Acts p_0.Timers p_0.Kids p_0.Sends p_0.Updates p_0.Requests)))
 (.ret (0, (GPending.mk p_0.Next p_0.Status 0 0 p_0.Attempt p_0.Seq p_0.Name p_0.Input p_0.Attrs p_0.Cancel p_0.Acts p_0.Timers p_0.Kids p_0.Sends p_0.Updates p_0.Requests)))))))
noncomputable def c131 : Empty → Cert prog Empty (Int × GPending) := nofun
theorem h131 (p_0 : GPending) (e_1 : GEvent) : tp prog x131 b131 (a131 p_0 e_1) (ES.init [.lend ((((((((((((GPending.cs p_0).map R.c).set 10 (.own 28 5 (E.GVal.L p_0.Input.Items))).set 11 (.own 9 1 (E.str.L p_0.Input.Keys))).set 15 (.own 28 5 (E.GVal.L p_0.Attrs.Items))).set 16 (.own 9 1 (E.str.L p_0.Attrs.Keys))).set 18 (.own 47 32 (E.GAct.L p_0.Acts))).set 19 (.own 49 3 (E.GTimer.L p_0.Timers))).set 20 (.own 51 6 (E.GKid.L p_0.Kids))).set 21 (.own 53 4 (E.GSend.L p_0.Sends))).set 22 (.own 118 2 (E.GUpd.L p_0.Updates))).set 23 (.own 9 1 (E.str.L p_0.Requests))), .val (.agg ((GEvent.cs e_1).map R.c))]) :=
  of_triv (rs := x131.rs) (snap := x131.snap) (c := a131 p_0 e_1) (by kernel_rfl)
theorem g131 : ∀ j, ck prog x131 b131 c131 j := nofun
noncomputable def m131 : Mir prog 131 (GPending × GEvent) (Int × GPending) where
  fs := [.lend (((((((((((List.replicate 24 none).set 10 (some (28, 5))).set 11 (some (9, 1))).set 15 (some (28, 5))).set 16 (some (9, 1))).set 18 (some (47, 32))).set 19 (some (49, 3))).set 20 (some (51, 6))).set 21 (some (53, 4))).set 22 (some (118, 2))).set 23 (some (9, 1))), .agg (List.replicate 24 none)]
  ga := fun x => [.lend ((((((((((((GPending.cs x.1).map R.c).set 10 (.own 28 5 (E.GVal.L x.1.Input.Items))).set 11 (.own 9 1 (E.str.L x.1.Input.Keys))).set 15 (.own 28 5 (E.GVal.L x.1.Attrs.Items))).set 16 (.own 9 1 (E.str.L x.1.Attrs.Keys))).set 18 (.own 47 32 (E.GAct.L x.1.Acts))).set 19 (.own 49 3 (E.GTimer.L x.1.Timers))).set 20 (.own 51 6 (E.GKid.L x.1.Kids))).set 21 (.own 53 4 (E.GSend.L x.1.Sends))).set 22 (.own 118 2 (E.GUpd.L x.1.Updates))).set 23 (.own 9 1 (E.str.L x.1.Requests))), .val (.agg ((GEvent.cs x.2).map R.c))]
  caps := fun x => []
  res := x131.res
  outs := x131.outs
  R := fun x y => Rn c131 (a131 x.1 x.2) y
  ok := fun x y h => sysA (cx := x131) follow func131 (h131 x.1 x.2) (g131) y h
  flat := false
  hflat := nofun
inductive J132 where
| s0 (p_t0 : GPending) (a_t5 : GAct)
noncomputable def b132 : Code := f132.body.getD .skip
noncomputable def x132 : Cx J132 (Int × GPending) where
  nt := 111
  rvs := [.tmp 4]
  mh := [0]
  res := fun y => [.one (.c (.int .i64 y.1))]
  outs := fun y => [(((((((((((GPending.cs y.2).map R.c).set 10 (.own 28 5 (E.GVal.L y.2.Input.Items))).set 11 (.own 9 1 (E.str.L y.2.Input.Keys))).set 15 (.own 28 5 (E.GVal.L y.2.Attrs.Items))).set 16 (.own 9 1 (E.str.L y.2.Attrs.Keys))).set 18 (.own 47 32 (E.GAct.L y.2.Acts))).set 19 (.own 49 3 (E.GTimer.L y.2.Timers))).set 20 (.own 51 6 (E.GKid.L y.2.Kids))).set 21 (.own 53 4 (E.GSend.L y.2.Sends))).set 22 (.own 118 2 (E.GUpd.L y.2.Updates))).set 23 (.own 9 1 (E.str.L y.2.Requests))]
  path := fun
    | .s0 _ _ => [1, 0, 1, 0, 1, 0, 1, 1, 1]
  sig := fun
    | .s0 _ _ => [0, 5]
  snap := fun
    | .s0 p_t0 a_t5 => ⟨[(0, .one (.ptr 0 0 0)), (5, .one (.ptr 10 1 0))], [((0, 0), .box ((((((((((((GPending.cs p_t0).map A.c).set 10 (.own 0 1)).set 11 (.own 1 1)).set 15 (.own 2 1)).set 16 (.own 3 1)).set 18 (.own 4 1)).set 19 (.own 5 1)).set 20 (.own 6 1)).set 21 (.own 7 1)).set 22 (.own 8 1)).set 23 (.own 9 1))), ((0, 1), .arr 28 5 (E.GVal.L p_t0.Input.Items)), ((1, 1), .arr 9 1 (E.str.L p_t0.Input.Keys)), ((2, 1), .arr 28 5 (E.GVal.L p_t0.Attrs.Items)), ((3, 1), .arr 9 1 (E.str.L p_t0.Attrs.Keys)), ((4, 1), .arr 47 32 (E.GAct.L p_t0.Acts)), ((5, 1), .arr 49 3 (E.GTimer.L p_t0.Timers)), ((6, 1), .arr 51 6 (E.GKid.L p_t0.Kids)), ((7, 1), .arr 53 4 (E.GSend.L p_t0.Sends)), ((8, 1), .arr 118 2 (E.GUpd.L p_t0.Updates)), ((9, 1), .arr 9 1 (E.str.L p_t0.Requests)), ((10, 1), .box ((((GAct.cs a_t5).map A.c).set 29 .nil).set 30 .nil))]⟩
noncomputable def a132 (p_0 : GPending) (e_1 : GEvent) : Cert prog J132 (Int × GPending) :=
 .ite 13 ((IntKind.i64.wrap (e_1.Seq - 1)) != p_0.Seq)
 (.ret (30, p_0))
 (.ite 39 (e_1.Kind == 7)
 (.jump (.s0 (GPending.mk p_0.Next p_0.Status p_0.Task p_0.TaskID p_0.Attempt e_1.Seq p_0.Name p_0.Input p_0.Attrs p_0.Cancel p_0.Acts p_0.Timers p_0.Kids p_0.Sends p_0.Updates p_0.Requests) (GAct.mk e_1.Seq e_1.ID e_1.Name e_1.Data e_1.Opts 1 1 e_1.Time e_1.Time 0 0 0 false zV eB)) [(0, 0), (1, 0), (2, 0), (3, 0), (4, 0), (5, 0), (6, 0), (7, 0), (8, 0), (9, 0), (10, 0), (5000, 1)])
 (.ite 67 (e_1.Kind == 14)
 (.bld E.GTimer [(GTimer.mk e_1.Seq e_1.ID (if 1099511627776 < (IntKind.i64.wrap (e_1.Time + e_1.N)) then 1099511627776 else (IntKind.i64.wrap (e_1.Time + e_1.N))))] <|
 .app E.GTimer 24 p_0.Timers [(GTimer.mk e_1.Seq e_1.ID (if 1099511627776 < (IntKind.i64.wrap (e_1.Time + e_1.N)) then 1099511627776 else (IntKind.i64.wrap (e_1.Time + e_1.N))))] <|
 .ret (0, (GPending.mk p_0.Next p_0.Status p_0.Task p_0.TaskID p_0.Attempt e_1.Seq p_0.Name p_0.Input p_0.Attrs p_0.Cancel p_0.Acts (p_0.Timers ++ [(GTimer.mk e_1.Seq e_1.ID (if 1099511627776 < (IntKind.i64.wrap (e_1.Time + e_1.N)) then 1099511627776 else (IntKind.i64.wrap (e_1.Time + e_1.N))))]) p_0.Kids p_0.Sends p_0.Updates p_0.Requests)))
 (.ite 89 (e_1.Kind == 19)
 (.bld E.GKid [(GKid.mk e_1.Seq e_1.ID e_1.Key e_1.Name e_1.N eB)] <|
 .app E.GKid 72 p_0.Kids [(GKid.mk e_1.Seq e_1.ID e_1.Key e_1.Name e_1.N eB)] <|
 .ret (0, (GPending.mk p_0.Next p_0.Status p_0.Task p_0.TaskID p_0.Attempt e_1.Seq p_0.Name p_0.Input p_0.Attrs p_0.Cancel p_0.Acts p_0.Timers (p_0.Kids ++ [(GKid.mk e_1.Seq e_1.ID e_1.Key e_1.Name e_1.N eB)]) p_0.Sends p_0.Updates p_0.Requests)))
 (.bld E.GSend [(GSend.mk e_1.Seq e_1.ID e_1.Key e_1.Name)] <|
 .app E.GSend 48 p_0.Sends [(GSend.mk e_1.Seq e_1.ID e_1.Key e_1.Name)] <|
 .ret (0, (GPending.mk p_0.Next p_0.Status p_0.Task p_0.TaskID p_0.Attempt e_1.Seq p_0.Name p_0.Input p_0.Attrs p_0.Cancel p_0.Acts p_0.Timers p_0.Kids (p_0.Sends ++ [(GSend.mk e_1.Seq e_1.ID e_1.Key e_1.Name)]) p_0.Updates p_0.Requests))))))
noncomputable def c132 : J132 → Cert prog J132 (Int × GPending)
| .s0 p_t0 a_t5 =>
 .call (m69).weak (GAct.mk a_t5.Seq a_t5.Event a_t5.Name a_t5.Data a_t5.Opts a_t5.State a_t5.Attempt a_t5.Scheduled a_t5.Due a_t5.Started a_t5.LastBeat a_t5.Token a_t5.Cancel (nV a_t5.Details) a_t5.Failure) fun r1 =>
 .bld E.GAct [r1] <|
 .app E.GAct 376 p_t0.Acts [r1] <|
 .ret (0, (GPending.mk p_t0.Next p_t0.Status p_t0.Task p_t0.TaskID p_t0.Attempt p_t0.Seq p_t0.Name p_t0.Input p_t0.Attrs p_t0.Cancel (p_t0.Acts ++ [r1]) p_t0.Timers p_t0.Kids p_t0.Sends p_t0.Updates p_t0.Requests))
theorem h132 (p_0 : GPending) (e_1 : GEvent) : tp prog x132 b132 (a132 p_0 e_1) (ES.init [.lend ((((((((((((GPending.cs p_0).map R.c).set 10 (.own 28 5 (E.GVal.L p_0.Input.Items))).set 11 (.own 9 1 (E.str.L p_0.Input.Keys))).set 15 (.own 28 5 (E.GVal.L p_0.Attrs.Items))).set 16 (.own 9 1 (E.str.L p_0.Attrs.Keys))).set 18 (.own 47 32 (E.GAct.L p_0.Acts))).set 19 (.own 49 3 (E.GTimer.L p_0.Timers))).set 20 (.own 51 6 (E.GKid.L p_0.Kids))).set 21 (.own 53 4 (E.GSend.L p_0.Sends))).set 22 (.own 118 2 (E.GUpd.L p_0.Updates))).set 23 (.own 9 1 (E.str.L p_0.Requests))), .val (.agg ((GEvent.cs e_1).map R.c))]) :=
  of_triv (rs := x132.rs) (snap := x132.snap) (c := a132 p_0 e_1) (by kernel_rfl)
theorem g132 : ∀ j, ck prog x132 b132 c132 j
| .s0 p_t0 a_t5 => of_triv (rs := x132.rs) (snap := x132.snap) (c := c132 (.s0 p_t0 a_t5)) (by kernel_rfl)
noncomputable def m132 : Mir prog 132 (GPending × GEvent) (Int × GPending) where
  fs := [.lend (((((((((((List.replicate 24 none).set 10 (some (28, 5))).set 11 (some (9, 1))).set 15 (some (28, 5))).set 16 (some (9, 1))).set 18 (some (47, 32))).set 19 (some (49, 3))).set 20 (some (51, 6))).set 21 (some (53, 4))).set 22 (some (118, 2))).set 23 (some (9, 1))), .agg (List.replicate 24 none)]
  ga := fun x => [.lend ((((((((((((GPending.cs x.1).map R.c).set 10 (.own 28 5 (E.GVal.L x.1.Input.Items))).set 11 (.own 9 1 (E.str.L x.1.Input.Keys))).set 15 (.own 28 5 (E.GVal.L x.1.Attrs.Items))).set 16 (.own 9 1 (E.str.L x.1.Attrs.Keys))).set 18 (.own 47 32 (E.GAct.L x.1.Acts))).set 19 (.own 49 3 (E.GTimer.L x.1.Timers))).set 20 (.own 51 6 (E.GKid.L x.1.Kids))).set 21 (.own 53 4 (E.GSend.L x.1.Sends))).set 22 (.own 118 2 (E.GUpd.L x.1.Updates))).set 23 (.own 9 1 (E.str.L x.1.Requests))), .val (.agg ((GEvent.cs x.2).map R.c))]
  caps := fun x => []
  res := x132.res
  outs := x132.outs
  R := fun x y => Rn c132 (a132 x.1 x.2) y
  ok := fun x y h => sysA (cx := x132) follow func132 (h132 x.1 x.2) (g132) y h
  flat := false
  hflat := nofun
noncomputable def b188 : Code := f188.body.getD .skip
noncomputable def x188 : Cx Empty Bool where
  nt := 16
  rvs := [.tmp 3]
  mh := []
  res := fun y => [.one (.c (.bool y))]
  outs := fun y => []
  path := nofun
  sig := nofun
  snap := nofun
noncomputable def a188 (a_0 : GAct) (cap0 : GEvent) : Cert prog Empty Bool :=
 .ite 9 (a_0.Seq == cap0.Seq)
 (.ret (a_0.Event == cap0.Ref))
 (.ret false)
noncomputable def c188 : Empty → Cert prog Empty Bool := nofun
theorem h188 (a_0 : GAct) (cap0 : GEvent) : tp prog x188 b188 (a188 a_0 cap0) (ES.init [.val (.agg ((GAct.cs a_0).map R.c)), .val (.one (.c (.ptr (GEvent.cs cap0))))]) :=
  of_triv (rs := x188.rs) (snap := x188.snap) (c := a188 a_0 cap0) (by kernel_rfl)
theorem g188 : ∀ j, ck prog x188 b188 c188 j := nofun
noncomputable def m188 : Mir prog 188 (GAct × GEvent) Bool where
  fs := [.agg (List.replicate 32 none)]
  ga := fun x => [.val (.agg ((GAct.cs x.1).map R.c))]
  caps := fun x => [(.ptr (GEvent.cs x.2))]
  res := x188.res
  outs := x188.outs
  R := fun x y => Rn c188 (a188 x.1 x.2) y
  ok := fun x y h => sysA (cx := x188) follow func188 (h188 x.1 x.2) (g188) y h
  flat := true
  hflat := fun _ _ => flatE rfl
noncomputable def b133 : Code := f133.body.getD .skip
noncomputable def x133 : Cx Empty (Int × GPending) where
  nt := 36
  rvs := [.tmp 4]
  mh := [0]
  res := fun y => [.one (.c (.int .i64 y.1))]
  outs := fun y => [(((((((((((GPending.cs y.2).map R.c).set 10 (.own 28 5 (E.GVal.L y.2.Input.Items))).set 11 (.own 9 1 (E.str.L y.2.Input.Keys))).set 15 (.own 28 5 (E.GVal.L y.2.Attrs.Items))).set 16 (.own 9 1 (E.str.L y.2.Attrs.Keys))).set 18 (.own 47 32 (E.GAct.L y.2.Acts))).set 19 (.own 49 3 (E.GTimer.L y.2.Timers))).set 20 (.own 51 6 (E.GKid.L y.2.Kids))).set 21 (.own 53 4 (E.GSend.L y.2.Sends))).set 22 (.own 118 2 (E.GUpd.L y.2.Updates))).set 23 (.own 9 1 (E.str.L y.2.Requests))]
  path := nofun
  sig := nofun
  snap := nofun
noncomputable def a133 (p_0 : GPending) (e_1 : GEvent) : Cert prog Empty (Int × GPending) :=
 .call m77 (p_0.Acts, (⟨188, [(.ptr (GEvent.cs e_1))], fun a b => m188.R (a, e_1) b, fun a b h => m188.ok (a, e_1) b h⟩ : Clo100)) fun r1 =>
 .ite 13 (decide (r1 < 0))
 (.ret (15, p_0))
 (.ite 25 (e_1.Kind == 8)
 (.ret (0, p_0))
 (.ite 27 (e_1.Kind == 12)
 (.idx E.GAct p_0.Acts r1 <|
 .eset E.GAct p_0.Acts r1.toNat (fun a2 => (GAct.mk a2.Seq a2.Event a2.Name a2.Data a2.Opts a2.State a2.Attempt a2.Scheduled a2.Due a2.Started a2.LastBeat a2.Token true a2.Details a2.Failure)) <|
 .ret (0, (GPending.mk p_0.Next p_0.Status p_0.Task p_0.TaskID p_0.Attempt p_0.Seq p_0.Name p_0.Input p_0.Attrs p_0.Cancel (p_0.Acts.modify r1.toNat (fun a2 => (GAct.mk a2.Seq a2.Event a2.Name a2.Data a2.Opts a2.State a2.Attempt a2.Scheduled a2.Due a2.Started a2.LastBeat a2.Token true a2.Details a2.Failure))) p_0.Timers p_0.Kids p_0.Sends p_0.Updates p_0.Requests)))
 (.call m189 (p_0.Acts, r1) fun r3 =>
 .ret (0, (GPending.mk p_0.Next p_0.Status p_0.Task p_0.TaskID p_0.Attempt p_0.Seq p_0.Name p_0.Input p_0.Attrs p_0.Cancel r3 p_0.Timers p_0.Kids p_0.Sends p_0.Updates p_0.Requests)))))
noncomputable def c133 : Empty → Cert prog Empty (Int × GPending) := nofun
theorem h133 (p_0 : GPending) (e_1 : GEvent) : tp prog x133 b133 (a133 p_0 e_1) (ES.init [.lend ((((((((((((GPending.cs p_0).map R.c).set 10 (.own 28 5 (E.GVal.L p_0.Input.Items))).set 11 (.own 9 1 (E.str.L p_0.Input.Keys))).set 15 (.own 28 5 (E.GVal.L p_0.Attrs.Items))).set 16 (.own 9 1 (E.str.L p_0.Attrs.Keys))).set 18 (.own 47 32 (E.GAct.L p_0.Acts))).set 19 (.own 49 3 (E.GTimer.L p_0.Timers))).set 20 (.own 51 6 (E.GKid.L p_0.Kids))).set 21 (.own 53 4 (E.GSend.L p_0.Sends))).set 22 (.own 118 2 (E.GUpd.L p_0.Updates))).set 23 (.own 9 1 (E.str.L p_0.Requests))), .val (.agg ((GEvent.cs e_1).map R.c))]) :=
  of_triv (rs := x133.rs) (snap := x133.snap) (c := a133 p_0 e_1) (by kernel_rfl)
theorem g133 : ∀ j, ck prog x133 b133 c133 j := nofun
noncomputable def m133 : Mir prog 133 (GPending × GEvent) (Int × GPending) where
  fs := [.lend (((((((((((List.replicate 24 none).set 10 (some (28, 5))).set 11 (some (9, 1))).set 15 (some (28, 5))).set 16 (some (9, 1))).set 18 (some (47, 32))).set 19 (some (49, 3))).set 20 (some (51, 6))).set 21 (some (53, 4))).set 22 (some (118, 2))).set 23 (some (9, 1))), .agg (List.replicate 24 none)]
  ga := fun x => [.lend ((((((((((((GPending.cs x.1).map R.c).set 10 (.own 28 5 (E.GVal.L x.1.Input.Items))).set 11 (.own 9 1 (E.str.L x.1.Input.Keys))).set 15 (.own 28 5 (E.GVal.L x.1.Attrs.Items))).set 16 (.own 9 1 (E.str.L x.1.Attrs.Keys))).set 18 (.own 47 32 (E.GAct.L x.1.Acts))).set 19 (.own 49 3 (E.GTimer.L x.1.Timers))).set 20 (.own 51 6 (E.GKid.L x.1.Kids))).set 21 (.own 53 4 (E.GSend.L x.1.Sends))).set 22 (.own 118 2 (E.GUpd.L x.1.Updates))).set 23 (.own 9 1 (E.str.L x.1.Requests))), .val (.agg ((GEvent.cs x.2).map R.c))]
  caps := fun x => []
  res := x133.res
  outs := x133.outs
  R := fun x y => Rn c133 (a133 x.1 x.2) y
  ok := fun x y h => sysA (cx := x133) follow func133 (h133 x.1 x.2) (g133) y h
  flat := false
  hflat := nofun
noncomputable def b190 : Code := f190.body.getD .skip
noncomputable def x190 : Cx Empty Bool where
  nt := 16
  rvs := [.tmp 3]
  mh := []
  res := fun y => [.one (.c (.bool y))]
  outs := fun y => []
  path := nofun
  sig := nofun
  snap := nofun
noncomputable def a190 (t_0 : GTimer) (cap0 : GEvent) : Cert prog Empty Bool :=
 .ite 9 (t_0.Seq == cap0.Seq)
 (.ret (t_0.Event == cap0.Ref))
 (.ret false)
noncomputable def c190 : Empty → Cert prog Empty Bool := nofun
theorem h190 (t_0 : GTimer) (cap0 : GEvent) : tp prog x190 b190 (a190 t_0 cap0) (ES.init [.val (.agg ((GTimer.cs t_0).map R.c)), .val (.one (.c (.ptr (GEvent.cs cap0))))]) :=
  of_triv (rs := x190.rs) (snap := x190.snap) (c := a190 t_0 cap0) (by kernel_rfl)
theorem g190 : ∀ j, ck prog x190 b190 c190 j := nofun
noncomputable def m190 : Mir prog 190 (GTimer × GEvent) Bool where
  fs := [.agg (List.replicate 3 none)]
  ga := fun x => [.val (.agg ((GTimer.cs x.1).map R.c))]
  caps := fun x => [(.ptr (GEvent.cs x.2))]
  res := x190.res
  outs := x190.outs
  R := fun x y => Rn c190 (a190 x.1 x.2) y
  ok := fun x y h => sysA (cx := x190) follow func190 (h190 x.1 x.2) (g190) y h
  flat := true
  hflat := fun _ _ => flatE rfl
noncomputable def b192 : Code := f192.body.getD .skip
noncomputable def x192 : Cx Empty Bool where
  nt := 16
  rvs := [.tmp 3]
  mh := []
  res := fun y => [.one (.c (.bool y))]
  outs := fun y => []
  path := nofun
  sig := nofun
  snap := nofun
noncomputable def a192 (s_0 : GSend) (cap0 : GEvent) : Cert prog Empty Bool :=
 .ite 9 (s_0.Seq == cap0.Seq)
 (.ret (s_0.Event == cap0.Ref))
 (.ret false)
noncomputable def c192 : Empty → Cert prog Empty Bool := nofun
theorem h192 (s_0 : GSend) (cap0 : GEvent) : tp prog x192 b192 (a192 s_0 cap0) (ES.init [.val (.agg ((GSend.cs s_0).map R.c)), .val (.one (.c (.ptr (GEvent.cs cap0))))]) :=
  of_triv (rs := x192.rs) (snap := x192.snap) (c := a192 s_0 cap0) (by kernel_rfl)
theorem g192 : ∀ j, ck prog x192 b192 c192 j := nofun
noncomputable def m192 : Mir prog 192 (GSend × GEvent) Bool where
  fs := [.agg (List.replicate 4 none)]
  ga := fun x => [.val (.agg ((GSend.cs x.1).map R.c))]
  caps := fun x => [(.ptr (GEvent.cs x.2))]
  res := x192.res
  outs := x192.outs
  R := fun x y => Rn c192 (a192 x.1 x.2) y
  ok := fun x y h => sysA (cx := x192) follow func192 (h192 x.1 x.2) (g192) y h
  flat := true
  hflat := fun _ _ => flatE rfl
inductive J134 where
| s0 (p_t0 : GPending) (e_t3 : GEvent) (t14 : Bool)
noncomputable def b134 : Code := f134.body.getD .skip
noncomputable def x134 : Cx J134 (Int × GPending) where
  nt := 49
  rvs := [.tmp 4]
  mh := [0]
  res := fun y => [.one (.c (.int .i64 y.1))]
  outs := fun y => [(((((((((((GPending.cs y.2).map R.c).set 10 (.own 28 5 (E.GVal.L y.2.Input.Items))).set 11 (.own 9 1 (E.str.L y.2.Input.Keys))).set 15 (.own 28 5 (E.GVal.L y.2.Attrs.Items))).set 16 (.own 9 1 (E.str.L y.2.Attrs.Keys))).set 18 (.own 47 32 (E.GAct.L y.2.Acts))).set 19 (.own 49 3 (E.GTimer.L y.2.Timers))).set 20 (.own 51 6 (E.GKid.L y.2.Kids))).set 21 (.own 53 4 (E.GSend.L y.2.Sends))).set 22 (.own 118 2 (E.GUpd.L y.2.Updates))).set 23 (.own 9 1 (E.str.L y.2.Requests))]
  path := fun
    | .s0 _ _ _ => [1, 0, 1]
  sig := fun
    | .s0 _ _ _ => [0, 3, 14]
  snap := fun
    | .s0 p_t0 e_t3 t14 => ⟨[(0, .one (.ptr 0 0 0)), (3, .one (.ptr 10 1 0)), (14, .one (.c (.bool t14)))], [((0, 0), .box ((((((((((((GPending.cs p_t0).map A.c).set 10 (.own 0 1)).set 11 (.own 1 1)).set 15 (.own 2 1)).set 16 (.own 3 1)).set 18 (.own 4 1)).set 19 (.own 5 1)).set 20 (.own 6 1)).set 21 (.own 7 1)).set 22 (.own 8 1)).set 23 (.own 9 1))), ((0, 1), .arr 28 5 (E.GVal.L p_t0.Input.Items)), ((1, 1), .arr 9 1 (E.str.L p_t0.Input.Keys)), ((2, 1), .arr 28 5 (E.GVal.L p_t0.Attrs.Items)), ((3, 1), .arr 9 1 (E.str.L p_t0.Attrs.Keys)), ((4, 1), .arr 47 32 (E.GAct.L p_t0.Acts)), ((5, 1), .arr 49 3 (E.GTimer.L p_t0.Timers)), ((6, 1), .arr 51 6 (E.GKid.L p_t0.Kids)), ((7, 1), .arr 53 4 (E.GSend.L p_t0.Sends)), ((8, 1), .arr 118 2 (E.GUpd.L p_t0.Updates)), ((9, 1), .arr 9 1 (E.str.L p_t0.Requests)), ((10, 1), .box ((GEvent.cs e_t3).map A.c))]⟩
noncomputable def a134 (p_0 : GPending) (e_1 : GEvent) : Cert prog J134 (Int × GPending) :=
 .ite 10 (e_1.Kind == 15)
 (.jump (.s0 p_0 e_1 true) [(0, 0), (1, 0), (2, 0), (3, 0), (4, 0), (5, 0), (6, 0), (7, 0), (8, 0), (9, 0), (10, 0), (3000, 1)])
 (.jump (.s0 p_0 e_1 (e_1.Kind == 16)) [(0, 0), (1, 0), (2, 0), (3, 0), (4, 0), (5, 0), (6, 0), (7, 0), (8, 0), (9, 0), (10, 0), (3000, 1)])
noncomputable def c134 : J134 → Cert prog J134 (Int × GPending)
| .s0 p_t0 e_t3 t14 =>
 .ite 14 t14
 (.call m138 (p_t0.Timers, (⟨190, [(.ptr (GEvent.cs e_t3))], fun a b => m190.R (a, e_t3) b, fun a b h => m190.ok (a, e_t3) b h⟩ : Clo103)) fun r1 =>
 .ite 22 (decide (r1 < 0))
 (.ret (15, p_t0))
 (.call m191 (p_t0.Timers, r1) fun r2 =>
 .ret (0, (GPending.mk p_t0.Next p_t0.Status p_t0.Task p_t0.TaskID p_t0.Attempt p_t0.Seq p_t0.Name p_t0.Input p_t0.Attrs p_t0.Cancel p_t0.Acts r2 p_t0.Kids p_t0.Sends p_t0.Updates p_t0.Requests))))
 (.call m140 (p_t0.Sends, (⟨192, [(.ptr (GEvent.cs e_t3))], fun a b => m192.R (a, e_t3) b, fun a b h => m192.ok (a, e_t3) b h⟩ : Clo107)) fun r3 =>
 .ite 39 (decide (r3 < 0))
 (.ret (15, p_t0))
 (.call m193 (p_t0.Sends, r3) fun r4 =>
 .ret (0, (GPending.mk p_t0.Next p_t0.Status p_t0.Task p_t0.TaskID p_t0.Attempt p_t0.Seq p_t0.Name p_t0.Input p_t0.Attrs p_t0.Cancel p_t0.Acts p_t0.Timers p_t0.Kids r4 p_t0.Updates p_t0.Requests))))
theorem h134 (p_0 : GPending) (e_1 : GEvent) : tp prog x134 b134 (a134 p_0 e_1) (ES.init [.lend ((((((((((((GPending.cs p_0).map R.c).set 10 (.own 28 5 (E.GVal.L p_0.Input.Items))).set 11 (.own 9 1 (E.str.L p_0.Input.Keys))).set 15 (.own 28 5 (E.GVal.L p_0.Attrs.Items))).set 16 (.own 9 1 (E.str.L p_0.Attrs.Keys))).set 18 (.own 47 32 (E.GAct.L p_0.Acts))).set 19 (.own 49 3 (E.GTimer.L p_0.Timers))).set 20 (.own 51 6 (E.GKid.L p_0.Kids))).set 21 (.own 53 4 (E.GSend.L p_0.Sends))).set 22 (.own 118 2 (E.GUpd.L p_0.Updates))).set 23 (.own 9 1 (E.str.L p_0.Requests))), .val (.agg ((GEvent.cs e_1).map R.c))]) :=
  of_triv (rs := x134.rs) (snap := x134.snap) (c := a134 p_0 e_1) (by kernel_rfl)
theorem g134 : ∀ j, ck prog x134 b134 c134 j
| .s0 p_t0 e_t3 t14 => of_triv (rs := x134.rs) (snap := x134.snap) (c := c134 (.s0 p_t0 e_t3 t14)) (by kernel_rfl)
noncomputable def m134 : Mir prog 134 (GPending × GEvent) (Int × GPending) where
  fs := [.lend (((((((((((List.replicate 24 none).set 10 (some (28, 5))).set 11 (some (9, 1))).set 15 (some (28, 5))).set 16 (some (9, 1))).set 18 (some (47, 32))).set 19 (some (49, 3))).set 20 (some (51, 6))).set 21 (some (53, 4))).set 22 (some (118, 2))).set 23 (some (9, 1))), .agg (List.replicate 24 none)]
  ga := fun x => [.lend ((((((((((((GPending.cs x.1).map R.c).set 10 (.own 28 5 (E.GVal.L x.1.Input.Items))).set 11 (.own 9 1 (E.str.L x.1.Input.Keys))).set 15 (.own 28 5 (E.GVal.L x.1.Attrs.Items))).set 16 (.own 9 1 (E.str.L x.1.Attrs.Keys))).set 18 (.own 47 32 (E.GAct.L x.1.Acts))).set 19 (.own 49 3 (E.GTimer.L x.1.Timers))).set 20 (.own 51 6 (E.GKid.L x.1.Kids))).set 21 (.own 53 4 (E.GSend.L x.1.Sends))).set 22 (.own 118 2 (E.GUpd.L x.1.Updates))).set 23 (.own 9 1 (E.str.L x.1.Requests))), .val (.agg ((GEvent.cs x.2).map R.c))]
  caps := fun x => []
  res := x134.res
  outs := x134.outs
  R := fun x y => Rn c134 (a134 x.1 x.2) y
  ok := fun x y h => sysA (cx := x134) follow func134 (h134 x.1 x.2) (g134) y h
  flat := false
  hflat := nofun
noncomputable def b194 : Code := f194.body.getD .skip
noncomputable def x194 : Cx Empty Bool where
  nt := 16
  rvs := [.tmp 3]
  mh := []
  res := fun y => [.one (.c (.bool y))]
  outs := fun y => []
  path := nofun
  sig := nofun
  snap := nofun
noncomputable def a194 (k_0 : GKid) (cap0 : GEvent) : Cert prog Empty Bool :=
 .ite 9 (k_0.Seq == cap0.Seq)
 (.ret (k_0.Event == cap0.Ref))
 (.ret false)
noncomputable def c194 : Empty → Cert prog Empty Bool := nofun
theorem h194 (k_0 : GKid) (cap0 : GEvent) : tp prog x194 b194 (a194 k_0 cap0) (ES.init [.val (.agg ((GKid.cs k_0).map R.c)), .val (.one (.c (.ptr (GEvent.cs cap0))))]) :=
  of_triv (rs := x194.rs) (snap := x194.snap) (c := a194 k_0 cap0) (by kernel_rfl)
theorem g194 : ∀ j, ck prog x194 b194 c194 j := nofun
noncomputable def m194 : Mir prog 194 (GKid × GEvent) Bool where
  fs := [.agg (List.replicate 6 none)]
  ga := fun x => [.val (.agg ((GKid.cs x.1).map R.c))]
  caps := fun x => [(.ptr (GEvent.cs x.2))]
  res := x194.res
  outs := x194.outs
  R := fun x y => Rn c194 (a194 x.1 x.2) y
  ok := fun x y h => sysA (cx := x194) follow func194 (h194 x.1 x.2) (g194) y h
  flat := true
  hflat := fun _ _ => flatE rfl
noncomputable def b135 : Code := f135.body.getD .skip
noncomputable def x135 : Cx Empty (Int × GPending) where
  nt := 47
  rvs := [.tmp 4]
  mh := [0]
  res := fun y => [.one (.c (.int .i64 y.1))]
  outs := fun y => [(((((((((((GPending.cs y.2).map R.c).set 10 (.own 28 5 (E.GVal.L y.2.Input.Items))).set 11 (.own 9 1 (E.str.L y.2.Input.Keys))).set 15 (.own 28 5 (E.GVal.L y.2.Attrs.Items))).set 16 (.own 9 1 (E.str.L y.2.Attrs.Keys))).set 18 (.own 47 32 (E.GAct.L y.2.Acts))).set 19 (.own 49 3 (E.GTimer.L y.2.Timers))).set 20 (.own 51 6 (E.GKid.L y.2.Kids))).set 21 (.own 53 4 (E.GSend.L y.2.Sends))).set 22 (.own 118 2 (E.GUpd.L y.2.Updates))).set 23 (.own 9 1 (E.str.L y.2.Requests))]
  path := nofun
  sig := nofun
  snap := nofun
noncomputable def a135 (p_0 : GPending) (e_1 : GEvent) : Cert prog Empty (Int × GPending) :=
 .call m139 (p_0.Kids, (⟨194, [(.ptr (GEvent.cs e_1))], fun a b => m194.R (a, e_1) b, fun a b h => m194.ok (a, e_1) b h⟩ : Clo105)) fun r1 =>
 .ite 21 (decide (r1 < 0))
 (.ret (15, p_0))
 (.ite 24 (e_1.Kind != 20)
 (.call m195 (p_0.Kids, r1) fun r2 =>
 .ret (0, (GPending.mk p_0.Next p_0.Status p_0.Task p_0.TaskID p_0.Attempt p_0.Seq p_0.Name p_0.Input p_0.Attrs p_0.Cancel p_0.Acts p_0.Timers r2 p_0.Sends p_0.Updates p_0.Requests)))
 (.idx E.GKid p_0.Kids r1 <|
 .eget E.GKid p_0.Kids r1.toNat fun a3 =>
 .ite 37 (!strEq a3.Run eB)
 (.ret (9, p_0))
 (.idx E.GKid p_0.Kids r1 <|
 .eset E.GKid p_0.Kids r1.toNat (fun a4 => (GKid.mk a4.Seq a4.Event a4.Key a4.Name a4.Policy e_1.Key)) <|
 .ret (0, (GPending.mk p_0.Next p_0.Status p_0.Task p_0.TaskID p_0.Attempt p_0.Seq p_0.Name p_0.Input p_0.Attrs p_0.Cancel p_0.Acts p_0.Timers (p_0.Kids.modify r1.toNat (fun a4 => (GKid.mk a4.Seq a4.Event a4.Key a4.Name a4.Policy e_1.Key))) p_0.Sends p_0.Updates p_0.Requests)))))
noncomputable def c135 : Empty → Cert prog Empty (Int × GPending) := nofun
theorem h135 (p_0 : GPending) (e_1 : GEvent) : tp prog x135 b135 (a135 p_0 e_1) (ES.init [.lend ((((((((((((GPending.cs p_0).map R.c).set 10 (.own 28 5 (E.GVal.L p_0.Input.Items))).set 11 (.own 9 1 (E.str.L p_0.Input.Keys))).set 15 (.own 28 5 (E.GVal.L p_0.Attrs.Items))).set 16 (.own 9 1 (E.str.L p_0.Attrs.Keys))).set 18 (.own 47 32 (E.GAct.L p_0.Acts))).set 19 (.own 49 3 (E.GTimer.L p_0.Timers))).set 20 (.own 51 6 (E.GKid.L p_0.Kids))).set 21 (.own 53 4 (E.GSend.L p_0.Sends))).set 22 (.own 118 2 (E.GUpd.L p_0.Updates))).set 23 (.own 9 1 (E.str.L p_0.Requests))), .val (.agg ((GEvent.cs e_1).map R.c))]) :=
  of_triv (rs := x135.rs) (snap := x135.snap) (c := a135 p_0 e_1) (by kernel_rfl)
theorem g135 : ∀ j, ck prog x135 b135 c135 j := nofun
noncomputable def m135 : Mir prog 135 (GPending × GEvent) (Int × GPending) where
  fs := [.lend (((((((((((List.replicate 24 none).set 10 (some (28, 5))).set 11 (some (9, 1))).set 15 (some (28, 5))).set 16 (some (9, 1))).set 18 (some (47, 32))).set 19 (some (49, 3))).set 20 (some (51, 6))).set 21 (some (53, 4))).set 22 (some (118, 2))).set 23 (some (9, 1))), .agg (List.replicate 24 none)]
  ga := fun x => [.lend ((((((((((((GPending.cs x.1).map R.c).set 10 (.own 28 5 (E.GVal.L x.1.Input.Items))).set 11 (.own 9 1 (E.str.L x.1.Input.Keys))).set 15 (.own 28 5 (E.GVal.L x.1.Attrs.Items))).set 16 (.own 9 1 (E.str.L x.1.Attrs.Keys))).set 18 (.own 47 32 (E.GAct.L x.1.Acts))).set 19 (.own 49 3 (E.GTimer.L x.1.Timers))).set 20 (.own 51 6 (E.GKid.L x.1.Kids))).set 21 (.own 53 4 (E.GSend.L x.1.Sends))).set 22 (.own 118 2 (E.GUpd.L x.1.Updates))).set 23 (.own 9 1 (E.str.L x.1.Requests))), .val (.agg ((GEvent.cs x.2).map R.c))]
  caps := fun x => []
  res := x135.res
  outs := x135.outs
  R := fun x y => Rn c135 (a135 x.1 x.2) y
  ok := fun x y h => sysA (cx := x135) follow func135 (h135 x.1 x.2) (g135) y h
  flat := false
  hflat := nofun
noncomputable def b197 : Code := f197.body.getD .skip
noncomputable def x197 : Cx Empty Bool where
  nt := 9
  rvs := [.tmp 3]
  mh := []
  res := fun y => [.one (.c (.bool y))]
  outs := fun y => []
  path := nofun
  sig := nofun
  snap := nofun
noncomputable def a197 (u_0 : GUpd) (cap0 : GEvent) : Cert prog Empty Bool :=
 .ret (strEq u_0.Key cap0.Key)
noncomputable def c197 : Empty → Cert prog Empty Bool := nofun
theorem h197 (u_0 : GUpd) (cap0 : GEvent) : tp prog x197 b197 (a197 u_0 cap0) (ES.init [.val (.agg ((GUpd.cs u_0).map R.c)), .val (.one (.c (.ptr (GEvent.cs cap0))))]) :=
  of_triv (rs := x197.rs) (snap := x197.snap) (c := a197 u_0 cap0) (by kernel_rfl)
theorem g197 : ∀ j, ck prog x197 b197 c197 j := nofun
noncomputable def m197 : Mir prog 197 (GUpd × GEvent) Bool where
  fs := [.agg (List.replicate 2 none)]
  ga := fun x => [.val (.agg ((GUpd.cs x.1).map R.c))]
  caps := fun x => [(.ptr (GEvent.cs x.2))]
  res := x197.res
  outs := x197.outs
  R := fun x y => Rn c197 (a197 x.1 x.2) y
  ok := fun x y h => sysA (cx := x197) follow func197 (h197 x.1 x.2) (g197) y h
  flat := true
  hflat := fun _ _ => flatE rfl
noncomputable def b136 : Code := f136.body.getD .skip
noncomputable def x136 : Cx Empty (Int × GPending) where
  nt := 46
  rvs := [.tmp 4]
  mh := [0]
  res := fun y => [.one (.c (.int .i64 y.1))]
  outs := fun y => [(((((((((((GPending.cs y.2).map R.c).set 10 (.own 28 5 (E.GVal.L y.2.Input.Items))).set 11 (.own 9 1 (E.str.L y.2.Input.Keys))).set 15 (.own 28 5 (E.GVal.L y.2.Attrs.Items))).set 16 (.own 9 1 (E.str.L y.2.Attrs.Keys))).set 18 (.own 47 32 (E.GAct.L y.2.Acts))).set 19 (.own 49 3 (E.GTimer.L y.2.Timers))).set 20 (.own 51 6 (E.GKid.L y.2.Kids))).set 21 (.own 53 4 (E.GSend.L y.2.Sends))).set 22 (.own 118 2 (E.GUpd.L y.2.Updates))).set 23 (.own 9 1 (E.str.L y.2.Requests))]
  path := nofun
  sig := nofun
  snap := nofun
noncomputable def a136 (p_0 : GPending) (e_1 : GEvent) : Cert prog Empty (Int × GPending) :=
 .call m196 (p_0.Updates, (⟨197, [(.ptr (GEvent.cs e_1))], fun a b => m197.R (a, e_1) b, fun a b h => m197.ok (a, e_1) b h⟩ : Clo173)) fun r1 =>
 .ite 14 (e_1.Kind == 27)
 (.ite 16 (decide (0 ≤ r1))
 (.ret (9, p_0))
 (.bld E.GUpd [(GUpd.mk e_1.Key false)] <|
 .app E.GUpd 24 p_0.Updates [(GUpd.mk e_1.Key false)] <|
 .ret (0, (GPending.mk p_0.Next p_0.Status p_0.Task p_0.TaskID p_0.Attempt p_0.Seq p_0.Name p_0.Input p_0.Attrs p_0.Cancel p_0.Acts p_0.Timers p_0.Kids p_0.Sends (p_0.Updates ++ [(GUpd.mk e_1.Key false)]) p_0.Requests))))
 (.ite 30 (decide (r1 < 0))
 (.ret (15, p_0))
 (.idx E.GUpd p_0.Updates r1 <|
 .eget E.GUpd p_0.Updates r1.toNat fun a2 =>
 .ite 38 a2.Done
 (.ret (9, p_0))
 (.idx E.GUpd p_0.Updates r1 <|
 .eset E.GUpd p_0.Updates r1.toNat (fun a3 => (GUpd.mk a3.Key true)) <|
 .ret (0, (GPending.mk p_0.Next p_0.Status p_0.Task p_0.TaskID p_0.Attempt p_0.Seq p_0.Name p_0.Input p_0.Attrs p_0.Cancel p_0.Acts p_0.Timers p_0.Kids p_0.Sends (p_0.Updates.modify r1.toNat (fun a3 => (GUpd.mk a3.Key true))) p_0.Requests)))))
noncomputable def c136 : Empty → Cert prog Empty (Int × GPending) := nofun
theorem h136 (p_0 : GPending) (e_1 : GEvent) : tp prog x136 b136 (a136 p_0 e_1) (ES.init [.lend ((((((((((((GPending.cs p_0).map R.c).set 10 (.own 28 5 (E.GVal.L p_0.Input.Items))).set 11 (.own 9 1 (E.str.L p_0.Input.Keys))).set 15 (.own 28 5 (E.GVal.L p_0.Attrs.Items))).set 16 (.own 9 1 (E.str.L p_0.Attrs.Keys))).set 18 (.own 47 32 (E.GAct.L p_0.Acts))).set 19 (.own 49 3 (E.GTimer.L p_0.Timers))).set 20 (.own 51 6 (E.GKid.L p_0.Kids))).set 21 (.own 53 4 (E.GSend.L p_0.Sends))).set 22 (.own 118 2 (E.GUpd.L p_0.Updates))).set 23 (.own 9 1 (E.str.L p_0.Requests))), .val (.agg ((GEvent.cs e_1).map R.c))]) :=
  of_triv (rs := x136.rs) (snap := x136.snap) (c := a136 p_0 e_1) (by kernel_rfl)
theorem g136 : ∀ j, ck prog x136 b136 c136 j := nofun
noncomputable def m136 : Mir prog 136 (GPending × GEvent) (Int × GPending) where
  fs := [.lend (((((((((((List.replicate 24 none).set 10 (some (28, 5))).set 11 (some (9, 1))).set 15 (some (28, 5))).set 16 (some (9, 1))).set 18 (some (47, 32))).set 19 (some (49, 3))).set 20 (some (51, 6))).set 21 (some (53, 4))).set 22 (some (118, 2))).set 23 (some (9, 1))), .agg (List.replicate 24 none)]
  ga := fun x => [.lend ((((((((((((GPending.cs x.1).map R.c).set 10 (.own 28 5 (E.GVal.L x.1.Input.Items))).set 11 (.own 9 1 (E.str.L x.1.Input.Keys))).set 15 (.own 28 5 (E.GVal.L x.1.Attrs.Items))).set 16 (.own 9 1 (E.str.L x.1.Attrs.Keys))).set 18 (.own 47 32 (E.GAct.L x.1.Acts))).set 19 (.own 49 3 (E.GTimer.L x.1.Timers))).set 20 (.own 51 6 (E.GKid.L x.1.Kids))).set 21 (.own 53 4 (E.GSend.L x.1.Sends))).set 22 (.own 118 2 (E.GUpd.L x.1.Updates))).set 23 (.own 9 1 (E.str.L x.1.Requests))), .val (.agg ((GEvent.cs x.2).map R.c))]
  caps := fun x => []
  res := x136.res
  outs := x136.outs
  R := fun x y => Rn c136 (a136 x.1 x.2) y
  ok := fun x y h => sysA (cx := x136) follow func136 (h136 x.1 x.2) (g136) y h
  flat := false
  hflat := nofun
inductive J63 where
| s0 (p_t0 : GPending) (e_t3 : GEvent) (t6 : Int) (t25 : Bool)
| s1 (p_t0 : GPending) (e_t3 : GEvent) (t6 : Int) (t34 : Bool)
| s2 (p_t0 : GPending) (e_t3 : GEvent) (t6 : Int) (t42 : Bool)
| s3 (p_t0 : GPending) (e_t3 : GEvent) (t6 : Int) (t52 : Bool)
| s4 (p_t0 : GPending) (e_t3 : GEvent) (t6 : Int) (t60 : Bool)
| s5 (p_t0 : GPending) (e_t3 : GEvent) (t6 : Int) (t67 : Bool)
| s6 (p_t0 : GPending) (e_t3 : GEvent) (t6 : Int) (t100 : Bool)
noncomputable def b63 : Code := f63.body.getD .skip
noncomputable def x63 : Cx J63 (Int × GPending) where
  nt := 114
  rvs := [.tmp 4]
  mh := [0]
  res := fun y => [.one (.c (.int .i64 y.1))]
  outs := fun y => [(((((((((((GPending.cs y.2).map R.c).set 10 (.own 28 5 (E.GVal.L y.2.Input.Items))).set 11 (.own 9 1 (E.str.L y.2.Input.Keys))).set 15 (.own 28 5 (E.GVal.L y.2.Attrs.Items))).set 16 (.own 9 1 (E.str.L y.2.Attrs.Keys))).set 18 (.own 47 32 (E.GAct.L y.2.Acts))).set 19 (.own 49 3 (E.GTimer.L y.2.Timers))).set 20 (.own 51 6 (E.GKid.L y.2.Kids))).set 21 (.own 53 4 (E.GSend.L y.2.Sends))).set 22 (.own 118 2 (E.GUpd.L y.2.Updates))).set 23 (.own 9 1 (E.str.L y.2.Requests))]
  path := fun
    | .s0 _ _ _ _ => [1, 0, 1, 0, 1]
    | .s1 _ _ _ _ => [1, 1, 1, 0, 1, 0, 1]
    | .s2 _ _ _ _ => [1, 1, 1, 1, 1, 0, 1, 0, 1]
    | .s3 _ _ _ _ => [1, 1, 1, 1, 1, 1, 1, 0, 1, 0, 1]
    | .s4 _ _ _ _ => [1, 1, 1, 1, 1, 1, 1, 1, 1, 0, 1, 0, 1]
    | .s5 _ _ _ _ => [1, 1, 1, 1, 1, 1, 1, 1, 1, 1, 1, 0, 1, 0, 1]
    | .s6 _ _ _ _ => [1, 1, 1, 1, 1, 1, 1, 1, 1, 1, 1, 1, 1, 0, 1, 0, 1]
  sig := fun
    | .s0 _ _ _ _ => [0, 3, 6, 25]
    | .s1 _ _ _ _ => [0, 3, 6, 34]
    | .s2 _ _ _ _ => [0, 3, 6, 42]
    | .s3 _ _ _ _ => [0, 3, 6, 52]
    | .s4 _ _ _ _ => [0, 3, 6, 60]
    | .s5 _ _ _ _ => [0, 3, 6, 67]
    | .s6 _ _ _ _ => [0, 3, 6, 100]
  snap := fun
    | .s0 p_t0 e_t3 t6 t25 => ⟨[(0, .one (.ptr 0 0 0)), (3, .one (.ptr 10 1 0)), (6, .one (.c (.int .i64 t6))), (25, .one (.c (.bool t25)))], [((0, 0), .box ((((((((((((GPending.cs p_t0).map A.c).set 10 (.own 0 1)).set 11 (.own 1 1)).set 15 (.own 2 1)).set 16 (.own 3 1)).set 18 (.own 4 1)).set 19 (.own 5 1)).set 20 (.own 6 1)).set 21 (.own 7 1)).set 22 (.own 8 1)).set 23 (.own 9 1))), ((0, 1), .arr 28 5 (E.GVal.L p_t0.Input.Items)), ((1, 1), .arr 9 1 (E.str.L p_t0.Input.Keys)), ((2, 1), .arr 28 5 (E.GVal.L p_t0.Attrs.Items)), ((3, 1), .arr 9 1 (E.str.L p_t0.Attrs.Keys)), ((4, 1), .arr 47 32 (E.GAct.L p_t0.Acts)), ((5, 1), .arr 49 3 (E.GTimer.L p_t0.Timers)), ((6, 1), .arr 51 6 (E.GKid.L p_t0.Kids)), ((7, 1), .arr 53 4 (E.GSend.L p_t0.Sends)), ((8, 1), .arr 118 2 (E.GUpd.L p_t0.Updates)), ((9, 1), .arr 9 1 (E.str.L p_t0.Requests)), ((10, 1), .box ((GEvent.cs e_t3).map A.c))]⟩
    | .s1 p_t0 e_t3 t6 t34 => ⟨[(0, .one (.ptr 0 0 0)), (3, .one (.ptr 10 1 0)), (6, .one (.c (.int .i64 t6))), (34, .one (.c (.bool t34)))], [((0, 0), .box ((((((((((((GPending.cs p_t0).map A.c).set 10 (.own 0 1)).set 11 (.own 1 1)).set 15 (.own 2 1)).set 16 (.own 3 1)).set 18 (.own 4 1)).set 19 (.own 5 1)).set 20 (.own 6 1)).set 21 (.own 7 1)).set 22 (.own 8 1)).set 23 (.own 9 1))), ((0, 1), .arr 28 5 (E.GVal.L p_t0.Input.Items)), ((1, 1), .arr 9 1 (E.str.L p_t0.Input.Keys)), ((2, 1), .arr 28 5 (E.GVal.L p_t0.Attrs.Items)), ((3, 1), .arr 9 1 (E.str.L p_t0.Attrs.Keys)), ((4, 1), .arr 47 32 (E.GAct.L p_t0.Acts)), ((5, 1), .arr 49 3 (E.GTimer.L p_t0.Timers)), ((6, 1), .arr 51 6 (E.GKid.L p_t0.Kids)), ((7, 1), .arr 53 4 (E.GSend.L p_t0.Sends)), ((8, 1), .arr 118 2 (E.GUpd.L p_t0.Updates)), ((9, 1), .arr 9 1 (E.str.L p_t0.Requests)), ((10, 1), .box ((GEvent.cs e_t3).map A.c))]⟩
    | .s2 p_t0 e_t3 t6 t42 => ⟨[(0, .one (.ptr 0 0 0)), (3, .one (.ptr 10 1 0)), (6, .one (.c (.int .i64 t6))), (42, .one (.c (.bool t42)))], [((0, 0), .box ((((((((((((GPending.cs p_t0).map A.c).set 10 (.own 0 1)).set 11 (.own 1 1)).set 15 (.own 2 1)).set 16 (.own 3 1)).set 18 (.own 4 1)).set 19 (.own 5 1)).set 20 (.own 6 1)).set 21 (.own 7 1)).set 22 (.own 8 1)).set 23 (.own 9 1))), ((0, 1), .arr 28 5 (E.GVal.L p_t0.Input.Items)), ((1, 1), .arr 9 1 (E.str.L p_t0.Input.Keys)), ((2, 1), .arr 28 5 (E.GVal.L p_t0.Attrs.Items)), ((3, 1), .arr 9 1 (E.str.L p_t0.Attrs.Keys)), ((4, 1), .arr 47 32 (E.GAct.L p_t0.Acts)), ((5, 1), .arr 49 3 (E.GTimer.L p_t0.Timers)), ((6, 1), .arr 51 6 (E.GKid.L p_t0.Kids)), ((7, 1), .arr 53 4 (E.GSend.L p_t0.Sends)), ((8, 1), .arr 118 2 (E.GUpd.L p_t0.Updates)), ((9, 1), .arr 9 1 (E.str.L p_t0.Requests)), ((10, 1), .box ((GEvent.cs e_t3).map A.c))]⟩
    | .s3 p_t0 e_t3 t6 t52 => ⟨[(0, .one (.ptr 0 0 0)), (3, .one (.ptr 10 1 0)), (6, .one (.c (.int .i64 t6))), (52, .one (.c (.bool t52)))], [((0, 0), .box ((((((((((((GPending.cs p_t0).map A.c).set 10 (.own 0 1)).set 11 (.own 1 1)).set 15 (.own 2 1)).set 16 (.own 3 1)).set 18 (.own 4 1)).set 19 (.own 5 1)).set 20 (.own 6 1)).set 21 (.own 7 1)).set 22 (.own 8 1)).set 23 (.own 9 1))), ((0, 1), .arr 28 5 (E.GVal.L p_t0.Input.Items)), ((1, 1), .arr 9 1 (E.str.L p_t0.Input.Keys)), ((2, 1), .arr 28 5 (E.GVal.L p_t0.Attrs.Items)), ((3, 1), .arr 9 1 (E.str.L p_t0.Attrs.Keys)), ((4, 1), .arr 47 32 (E.GAct.L p_t0.Acts)), ((5, 1), .arr 49 3 (E.GTimer.L p_t0.Timers)), ((6, 1), .arr 51 6 (E.GKid.L p_t0.Kids)), ((7, 1), .arr 53 4 (E.GSend.L p_t0.Sends)), ((8, 1), .arr 118 2 (E.GUpd.L p_t0.Updates)), ((9, 1), .arr 9 1 (E.str.L p_t0.Requests)), ((10, 1), .box ((GEvent.cs e_t3).map A.c))]⟩
    | .s4 p_t0 e_t3 t6 t60 => ⟨[(0, .one (.ptr 0 0 0)), (3, .one (.ptr 10 1 0)), (6, .one (.c (.int .i64 t6))), (60, .one (.c (.bool t60)))], [((0, 0), .box ((((((((((((GPending.cs p_t0).map A.c).set 10 (.own 0 1)).set 11 (.own 1 1)).set 15 (.own 2 1)).set 16 (.own 3 1)).set 18 (.own 4 1)).set 19 (.own 5 1)).set 20 (.own 6 1)).set 21 (.own 7 1)).set 22 (.own 8 1)).set 23 (.own 9 1))), ((0, 1), .arr 28 5 (E.GVal.L p_t0.Input.Items)), ((1, 1), .arr 9 1 (E.str.L p_t0.Input.Keys)), ((2, 1), .arr 28 5 (E.GVal.L p_t0.Attrs.Items)), ((3, 1), .arr 9 1 (E.str.L p_t0.Attrs.Keys)), ((4, 1), .arr 47 32 (E.GAct.L p_t0.Acts)), ((5, 1), .arr 49 3 (E.GTimer.L p_t0.Timers)), ((6, 1), .arr 51 6 (E.GKid.L p_t0.Kids)), ((7, 1), .arr 53 4 (E.GSend.L p_t0.Sends)), ((8, 1), .arr 118 2 (E.GUpd.L p_t0.Updates)), ((9, 1), .arr 9 1 (E.str.L p_t0.Requests)), ((10, 1), .box ((GEvent.cs e_t3).map A.c))]⟩
    | .s5 p_t0 e_t3 t6 t67 => ⟨[(0, .one (.ptr 0 0 0)), (3, .one (.ptr 10 1 0)), (6, .one (.c (.int .i64 t6))), (67, .one (.c (.bool t67)))], [((0, 0), .box ((((((((((((GPending.cs p_t0).map A.c).set 10 (.own 0 1)).set 11 (.own 1 1)).set 15 (.own 2 1)).set 16 (.own 3 1)).set 18 (.own 4 1)).set 19 (.own 5 1)).set 20 (.own 6 1)).set 21 (.own 7 1)).set 22 (.own 8 1)).set 23 (.own 9 1))), ((0, 1), .arr 28 5 (E.GVal.L p_t0.Input.Items)), ((1, 1), .arr 9 1 (E.str.L p_t0.Input.Keys)), ((2, 1), .arr 28 5 (E.GVal.L p_t0.Attrs.Items)), ((3, 1), .arr 9 1 (E.str.L p_t0.Attrs.Keys)), ((4, 1), .arr 47 32 (E.GAct.L p_t0.Acts)), ((5, 1), .arr 49 3 (E.GTimer.L p_t0.Timers)), ((6, 1), .arr 51 6 (E.GKid.L p_t0.Kids)), ((7, 1), .arr 53 4 (E.GSend.L p_t0.Sends)), ((8, 1), .arr 118 2 (E.GUpd.L p_t0.Updates)), ((9, 1), .arr 9 1 (E.str.L p_t0.Requests)), ((10, 1), .box ((GEvent.cs e_t3).map A.c))]⟩
    | .s6 p_t0 e_t3 t6 t100 => ⟨[(0, .one (.ptr 0 0 0)), (3, .one (.ptr 10 1 0)), (6, .one (.c (.int .i64 t6))), (100, .one (.c (.bool t100)))], [((0, 0), .box ((((((((((((GPending.cs p_t0).map A.c).set 10 (.own 0 1)).set 11 (.own 1 1)).set 15 (.own 2 1)).set 16 (.own 3 1)).set 18 (.own 4 1)).set 19 (.own 5 1)).set 20 (.own 6 1)).set 21 (.own 7 1)).set 22 (.own 8 1)).set 23 (.own 9 1))), ((0, 1), .arr 28 5 (E.GVal.L p_t0.Input.Items)), ((1, 1), .arr 9 1 (E.str.L p_t0.Input.Keys)), ((2, 1), .arr 28 5 (E.GVal.L p_t0.Attrs.Items)), ((3, 1), .arr 9 1 (E.str.L p_t0.Attrs.Keys)), ((4, 1), .arr 47 32 (E.GAct.L p_t0.Acts)), ((5, 1), .arr 49 3 (E.GTimer.L p_t0.Timers)), ((6, 1), .arr 51 6 (E.GKid.L p_t0.Kids)), ((7, 1), .arr 53 4 (E.GSend.L p_t0.Sends)), ((8, 1), .arr 118 2 (E.GUpd.L p_t0.Updates)), ((9, 1), .arr 9 1 (E.str.L p_t0.Requests)), ((10, 1), .box ((GEvent.cs e_t3).map A.c))]⟩
noncomputable def a63 (p_0 : GPending) (e_1 : GEvent) : Cert prog J63 (Int × GPending) :=
 .ite 25 (e_1.Kind == 2)
 (.jump (.s0 p_0 e_1 e_1.Kind true) [(0, 0), (1, 0), (2, 0), (3, 0), (4, 0), (5, 0), (6, 0), (7, 0), (8, 0), (9, 0), (10, 0), (3000, 1)])
 (.ite 25 (e_1.Kind == 3)
 (.jump (.s0 p_0 e_1 e_1.Kind true) [(0, 0), (1, 0), (2, 0), (3, 0), (4, 0), (5, 0), (6, 0), (7, 0), (8, 0), (9, 0), (10, 0), (3000, 1)])
 (.ite 25 (e_1.Kind == 4)
 (.jump (.s0 p_0 e_1 e_1.Kind true) [(0, 0), (1, 0), (2, 0), (3, 0), (4, 0), (5, 0), (6, 0), (7, 0), (8, 0), (9, 0), (10, 0), (3000, 1)])
 (.ite 25 (e_1.Kind == 5)
 (.jump (.s0 p_0 e_1 e_1.Kind true) [(0, 0), (1, 0), (2, 0), (3, 0), (4, 0), (5, 0), (6, 0), (7, 0), (8, 0), (9, 0), (10, 0), (3000, 1)])
 (.jump (.s0 p_0 e_1 e_1.Kind (e_1.Kind == 6)) [(0, 0), (1, 0), (2, 0), (3, 0), (4, 0), (5, 0), (6, 0), (7, 0), (8, 0), (9, 0), (10, 0), (3000, 1)]))))
noncomputable def c63 : J63 → Cert prog J63 (Int × GPending)
| .s0 p_t0 e_t3 t6 t25 =>
 .ite 25 t25
 (.call m131 (p_t0, e_t3) fun r1 =>
 .ret (r1.1, r1.2))
 (.ite 34 (t6 == 7)
 (.jump (.s1 p_t0 e_t3 t6 true) [(0, 0), (0, 1), (1, 1), (2, 1), (3, 1), (4, 1), (5, 1), (6, 1), (7, 1), (8, 1), (9, 1), (10, 1)])
 (.ite 34 (t6 == 14)
 (.jump (.s1 p_t0 e_t3 t6 true) [(0, 0), (0, 1), (1, 1), (2, 1), (3, 1), (4, 1), (5, 1), (6, 1), (7, 1), (8, 1), (9, 1), (10, 1)])
 (.ite 34 (t6 == 19)
 (.jump (.s1 p_t0 e_t3 t6 true) [(0, 0), (0, 1), (1, 1), (2, 1), (3, 1), (4, 1), (5, 1), (6, 1), (7, 1), (8, 1), (9, 1), (10, 1)])
 (.jump (.s1 p_t0 e_t3 t6 (t6 == 23)) [(0, 0), (0, 1), (1, 1), (2, 1), (3, 1), (4, 1), (5, 1), (6, 1), (7, 1), (8, 1), (9, 1), (10, 1)]))))
| .s1 p_t0 e_t3 t6 t34 =>
 .ite 34 t34
 (.call m132 (p_t0, e_t3) fun r2 =>
 .ret (r2.1, r2.2))
 (.ite 42 (t6 == 8)
 (.jump (.s2 p_t0 e_t3 t6 true) [(0, 0), (0, 1), (1, 1), (2, 1), (3, 1), (4, 1), (5, 1), (6, 1), (7, 1), (8, 1), (9, 1), (10, 1)])
 (.ite 42 (t6 == 12)
 (.jump (.s2 p_t0 e_t3 t6 true) [(0, 0), (0, 1), (1, 1), (2, 1), (3, 1), (4, 1), (5, 1), (6, 1), (7, 1), (8, 1), (9, 1), (10, 1)])
 (.ite 42 (t6 == 9)
 (.jump (.s2 p_t0 e_t3 t6 true) [(0, 0), (0, 1), (1, 1), (2, 1), (3, 1), (4, 1), (5, 1), (6, 1), (7, 1), (8, 1), (9, 1), (10, 1)])
 (.ite 42 (t6 == 10)
 (.jump (.s2 p_t0 e_t3 t6 true) [(0, 0), (0, 1), (1, 1), (2, 1), (3, 1), (4, 1), (5, 1), (6, 1), (7, 1), (8, 1), (9, 1), (10, 1)])
 (.ite 42 (t6 == 11)
 (.jump (.s2 p_t0 e_t3 t6 true) [(0, 0), (0, 1), (1, 1), (2, 1), (3, 1), (4, 1), (5, 1), (6, 1), (7, 1), (8, 1), (9, 1), (10, 1)])
 (.jump (.s2 p_t0 e_t3 t6 (t6 == 13)) [(0, 0), (0, 1), (1, 1), (2, 1), (3, 1), (4, 1), (5, 1), (6, 1), (7, 1), (8, 1), (9, 1), (10, 1)]))))))
| .s2 p_t0 e_t3 t6 t42 =>
 .ite 42 t42
 (.call m133 (p_t0, e_t3) fun r3 =>
 .ret (r3.1, r3.2))
 (.ite 52 (t6 == 15)
 (.jump (.s3 p_t0 e_t3 t6 true) [(0, 0), (0, 1), (1, 1), (2, 1), (3, 1), (4, 1), (5, 1), (6, 1), (7, 1), (8, 1), (9, 1), (10, 1)])
 (.ite 52 (t6 == 16)
 (.jump (.s3 p_t0 e_t3 t6 true) [(0, 0), (0, 1), (1, 1), (2, 1), (3, 1), (4, 1), (5, 1), (6, 1), (7, 1), (8, 1), (9, 1), (10, 1)])
 (.ite 52 (t6 == 24)
 (.jump (.s3 p_t0 e_t3 t6 true) [(0, 0), (0, 1), (1, 1), (2, 1), (3, 1), (4, 1), (5, 1), (6, 1), (7, 1), (8, 1), (9, 1), (10, 1)])
 (.jump (.s3 p_t0 e_t3 t6 (t6 == 25)) [(0, 0), (0, 1), (1, 1), (2, 1), (3, 1), (4, 1), (5, 1), (6, 1), (7, 1), (8, 1), (9, 1), (10, 1)]))))
| .s3 p_t0 e_t3 t6 t52 =>
 .ite 52 t52
 (.call m134 (p_t0, e_t3) fun r4 =>
 .ret (r4.1, r4.2))
 (.ite 60 (t6 == 20)
 (.jump (.s4 p_t0 e_t3 t6 true) [(0, 0), (0, 1), (1, 1), (2, 1), (3, 1), (4, 1), (5, 1), (6, 1), (7, 1), (8, 1), (9, 1), (10, 1)])
 (.ite 60 (t6 == 21)
 (.jump (.s4 p_t0 e_t3 t6 true) [(0, 0), (0, 1), (1, 1), (2, 1), (3, 1), (4, 1), (5, 1), (6, 1), (7, 1), (8, 1), (9, 1), (10, 1)])
 (.jump (.s4 p_t0 e_t3 t6 (t6 == 22)) [(0, 0), (0, 1), (1, 1), (2, 1), (3, 1), (4, 1), (5, 1), (6, 1), (7, 1), (8, 1), (9, 1), (10, 1)])))
| .s4 p_t0 e_t3 t6 t60 =>
 .ite 60 t60
 (.call m135 (p_t0, e_t3) fun r5 =>
 .ret (r5.1, r5.2))
 (.ite 67 (t6 == 17)
 (.jump (.s5 p_t0 e_t3 t6 true) [(0, 0), (0, 1), (1, 1), (2, 1), (3, 1), (4, 1), (5, 1), (6, 1), (7, 1), (8, 1), (9, 1), (10, 1)])
 (.jump (.s5 p_t0 e_t3 t6 (t6 == 26)) [(0, 0), (0, 1), (1, 1), (2, 1), (3, 1), (4, 1), (5, 1), (6, 1), (7, 1), (8, 1), (9, 1), (10, 1)]))
| .s5 p_t0 e_t3 t6 t67 =>
 .ite 67 t67
 (.call m81 (p_t0.Requests, e_t3.Key) fun r6 =>
 .ite 76 r6
 (.ret (9, p_t0))
 (.bld E.str [e_t3.Key] <|
 .app E.str 16 p_t0.Requests [e_t3.Key] <|
 .ite 93 p_t0.Cancel
 (.ret (0, (GPending.mk p_t0.Next p_t0.Status p_t0.Task p_t0.TaskID p_t0.Attempt p_t0.Seq p_t0.Name p_t0.Input p_t0.Attrs true p_t0.Acts p_t0.Timers p_t0.Kids p_t0.Sends p_t0.Updates (p_t0.Requests ++ [e_t3.Key]))))
 (.ret (0, (GPending.mk p_t0.Next p_t0.Status p_t0.Task p_t0.TaskID p_t0.Attempt p_t0.Seq p_t0.Name p_t0.Input p_t0.Attrs (e_t3.Kind == 26) p_t0.Acts p_t0.Timers p_t0.Kids p_t0.Sends p_t0.Updates (p_t0.Requests ++ [e_t3.Key]))))))
 (.ite 100 (t6 == 27)
 (.jump (.s6 p_t0 e_t3 t6 true) [(0, 0), (0, 1), (1, 1), (2, 1), (3, 1), (4, 1), (5, 1), (6, 1), (7, 1), (8, 1), (9, 1), (10, 1)])
 (.jump (.s6 p_t0 e_t3 t6 (t6 == 28)) [(0, 0), (0, 1), (1, 1), (2, 1), (3, 1), (4, 1), (5, 1), (6, 1), (7, 1), (8, 1), (9, 1), (10, 1)]))
| .s6 p_t0 e_t3 t6 t100 =>
 .ite 100 t100
 (.call m136 (p_t0, e_t3) fun r7 =>
 .ret (r7.1, r7.2))
 (.ite 106 (t6 == 29)
 (.call m137 (p_t0, e_t3.Data) fun r8 =>
 .ret (r8.1, r8.2))
 (.ite 112 (t6 == 18)
 (.ret (0, p_t0))
 (.call m27 e_t3.Kind fun r9 =>
 .ret (0, (GPending.mk p_t0.Next r9.1 0 0 0 p_t0.Seq p_t0.Name p_t0.Input p_t0.Attrs p_t0.Cancel p_t0.Acts p_t0.Timers p_t0.Kids p_t0.Sends p_t0.Updates p_t0.Requests)))))
theorem h63 (p_0 : GPending) (e_1 : GEvent) : tp prog x63 b63 (a63 p_0 e_1) (ES.init [.lend ((((((((((((GPending.cs p_0).map R.c).set 10 (.own 28 5 (E.GVal.L p_0.Input.Items))).set 11 (.own 9 1 (E.str.L p_0.Input.Keys))).set 15 (.own 28 5 (E.GVal.L p_0.Attrs.Items))).set 16 (.own 9 1 (E.str.L p_0.Attrs.Keys))).set 18 (.own 47 32 (E.GAct.L p_0.Acts))).set 19 (.own 49 3 (E.GTimer.L p_0.Timers))).set 20 (.own 51 6 (E.GKid.L p_0.Kids))).set 21 (.own 53 4 (E.GSend.L p_0.Sends))).set 22 (.own 118 2 (E.GUpd.L p_0.Updates))).set 23 (.own 9 1 (E.str.L p_0.Requests))), .val (.agg ((GEvent.cs e_1).map R.c))]) :=
  of_triv (rs := x63.rs) (snap := x63.snap) (c := a63 p_0 e_1) (by kernel_rfl)
theorem g63 : ∀ j, ck prog x63 b63 c63 j
| .s0 p_t0 e_t3 t6 t25 => of_triv (rs := x63.rs) (snap := x63.snap) (c := c63 (.s0 p_t0 e_t3 t6 t25)) (by kernel_rfl)
| .s1 p_t0 e_t3 t6 t34 => of_triv (rs := x63.rs) (snap := x63.snap) (c := c63 (.s1 p_t0 e_t3 t6 t34)) (by kernel_rfl)
| .s2 p_t0 e_t3 t6 t42 => of_triv (rs := x63.rs) (snap := x63.snap) (c := c63 (.s2 p_t0 e_t3 t6 t42)) (by kernel_rfl)
| .s3 p_t0 e_t3 t6 t52 => of_triv (rs := x63.rs) (snap := x63.snap) (c := c63 (.s3 p_t0 e_t3 t6 t52)) (by kernel_rfl)
| .s4 p_t0 e_t3 t6 t60 => of_triv (rs := x63.rs) (snap := x63.snap) (c := c63 (.s4 p_t0 e_t3 t6 t60)) (by kernel_rfl)
| .s5 p_t0 e_t3 t6 t67 => of_triv (rs := x63.rs) (snap := x63.snap) (c := c63 (.s5 p_t0 e_t3 t6 t67)) (by kernel_rfl)
| .s6 p_t0 e_t3 t6 t100 => of_triv (rs := x63.rs) (snap := x63.snap) (c := c63 (.s6 p_t0 e_t3 t6 t100)) (by kernel_rfl)
noncomputable def m63 : Mir prog 63 (GPending × GEvent) (Int × GPending) where
  fs := [.lend (((((((((((List.replicate 24 none).set 10 (some (28, 5))).set 11 (some (9, 1))).set 15 (some (28, 5))).set 16 (some (9, 1))).set 18 (some (47, 32))).set 19 (some (49, 3))).set 20 (some (51, 6))).set 21 (some (53, 4))).set 22 (some (118, 2))).set 23 (some (9, 1))), .agg (List.replicate 24 none)]
  ga := fun x => [.lend ((((((((((((GPending.cs x.1).map R.c).set 10 (.own 28 5 (E.GVal.L x.1.Input.Items))).set 11 (.own 9 1 (E.str.L x.1.Input.Keys))).set 15 (.own 28 5 (E.GVal.L x.1.Attrs.Items))).set 16 (.own 9 1 (E.str.L x.1.Attrs.Keys))).set 18 (.own 47 32 (E.GAct.L x.1.Acts))).set 19 (.own 49 3 (E.GTimer.L x.1.Timers))).set 20 (.own 51 6 (E.GKid.L x.1.Kids))).set 21 (.own 53 4 (E.GSend.L x.1.Sends))).set 22 (.own 118 2 (E.GUpd.L x.1.Updates))).set 23 (.own 9 1 (E.str.L x.1.Requests))), .val (.agg ((GEvent.cs x.2).map R.c))]
  caps := fun x => []
  res := x63.res
  outs := x63.outs
  R := fun x y => Rn c63 (a63 x.1 x.2) y
  ok := fun x y h => sysA (cx := x63) follow func63 (h63 x.1 x.2) (g63) y h
  flat := false
  hflat := nofun
inductive J17 where
| s0 (p_t2 : GPending) (e_t3 : GEvent) (t4 : GPending) (t8 : Bool)
noncomputable def b17 : Code := f17.body.getD .skip
noncomputable def x17 : Cx J17 (GPending × Int) where
  nt := 43
  rvs := [.cell 4 35, .tmp 5]
  mh := []
  res := fun y => [.agg ((((((((((((GPending.cs y.1).map R.c).set 10 (.own 28 5 (E.GVal.L y.1.Input.Items))).set 11 (.own 9 1 (E.str.L y.1.Input.Keys))).set 15 (.own 28 5 (E.GVal.L y.1.Attrs.Items))).set 16 (.own 9 1 (E.str.L y.1.Attrs.Keys))).set 18 (.own 47 32 (E.GAct.L y.1.Acts))).set 19 (.own 49 3 (E.GTimer.L y.1.Timers))).set 20 (.own 51 6 (E.GKid.L y.1.Kids))).set 21 (.own 53 4 (E.GSend.L y.1.Sends))).set 22 (.own 118 2 (E.GUpd.L y.1.Updates))).set 23 (.own 9 1 (E.str.L y.1.Requests))), .one (.c (.int .i64 y.2))]
  outs := fun y => []
  path := fun
    | .s0 _ _ _ _ => [1, 0, 0, 1]
  sig := fun
    | .s0 _ _ _ _ => [2, 3, 4, 8]
  snap := fun
    | .s0 p_t2 e_t3 t4 t8 => ⟨[(2, .one (.ptr 0 1 0)), (3, .one (.ptr 1 1 0)), (4, .one (.ptr 2 1 0)), (8, .one (.c (.bool t8)))], [((0, 1), .box ((GPending.cs p_t2).map A.c)), ((1, 1), .box ((GEvent.cs e_t3).map A.c)), ((2, 1), .box ((((((((((((GPending.cs t4).map A.c).set 10 .nil).set 11 .nil).set 15 .nil).set 16 .nil).set 18 .nil).set 19 .nil).set 20 .nil).set 21 .nil).set 22 .nil).set 23 .nil))]⟩
noncomputable def a17 (p_0 : GPending) (e_1 : GEvent) : Cert prog J17 (GPending × Int) :=
 .ite 12 (e_1.Kind == 1)
 (.jump (.s0 p_0 e_1 zP true) [(2000, 1), (3000, 1), (4000, 1)])
 (.call m61 e_1 fun r1 =>
 .jump (.s0 p_0 e_1 zP (!r1)) [(2000, 1), (3000, 1), (4000, 1)])
noncomputable def c17 : J17 → Cert prog J17 (GPending × Int)
| .s0 p_t2 e_t3 t4 t8 =>
 .ite 8 t8
 (.ret (zP, 11))
 (.ite 18 (e_t3.ID != p_t2.Next)
 (.ret (zP, 30))
 (.ite 25 (p_t2.Status != 0)
 (.ret (zP, 17))
 (.call m62 p_t2 fun r2 =>
 .call m63 ((GPending.mk (IntKind.i64.wrap (r2.Next + 1)) r2.Status r2.Task r2.TaskID r2.Attempt r2.Seq r2.Name r2.Input r2.Attrs r2.Cancel r2.Acts r2.Timers r2.Kids r2.Sends r2.Updates r2.Requests), e_t3) fun r3 =>
 .ite 39 (r3.1 != 0)
 (.ret (zP, r3.1))
 (.ret (r3.2, 0)))))
theorem h17 (p_0 : GPending) (e_1 : GEvent) : tp prog x17 b17 (a17 p_0 e_1) (ES.init [.val (.agg ((GPending.cs p_0).map R.c)), .val (.agg ((GEvent.cs e_1).map R.c))]) :=
  of_triv (rs := x17.rs) (snap := x17.snap) (c := a17 p_0 e_1) (by kernel_rfl)
theorem g17 : ∀ j, ck prog x17 b17 c17 j
| .s0 p_t2 e_t3 t4 t8 => of_triv (rs := x17.rs) (snap := x17.snap) (c := c17 (.s0 p_t2 e_t3 t4 t8)) (by kernel_rfl)
noncomputable def m17 : Mir prog 17 (GPending × GEvent) (GPending × Int) where
  fs := [.agg (List.replicate 24 none), .agg (List.replicate 24 none)]
  ga := fun x => [.val (.agg ((GPending.cs x.1).map R.c)), .val (.agg ((GEvent.cs x.2).map R.c))]
  caps := fun x => []
  res := x17.res
  outs := x17.outs
  R := fun x y => Rn c17 (a17 x.1 x.2) y
  ok := fun x y h => sysA (cx := x17) follow func17 (h17 x.1 x.2) (g17) y h
  flat := false
  hflat := nofun
inductive J16 where
| s0 (t2 : GPending) (p_t4 : GPending) (e_t5 : Int) (t20 : List GEvent) (t21 : Int) (t22 : Int)
noncomputable def b16 : Code := f16.body.getD .skip
noncomputable def x16 : Cx J16 (GPending × Int) where
  nt := 37
  rvs := [.cell 2 35, .tmp 3]
  mh := []
  res := fun y => [.agg ((((GPending.cs y.1).map R.c).set 10 (.own 28 5 (E.GVal.L y.1.Input.Items))).set 11 (.own 9 1 (E.str.L y.1.Input.Keys))), .one (.c (.int .i64 y.2))]
  outs := fun y => []
  path := fun
    | .s0 _ _ _ _ _ _ => [0, 1, 0, 1, 1, 1]
  sig := fun
    | .s0 _ _ _ _ _ _ => [2, 4, 5, 20, 21, 22]
  snap := fun
    | .s0 t2 p_t4 e_t5 t20 t21 t22 => ⟨[(2, .one (.ptr 0 1 0)), (4, .one (.ptr 1 1 0)), (5, .one (.c (.int .i64 e_t5))), (20, .one (.c (.sl (E.GEvent.L t20)))), (21, .one (.c (.int .i64 t21))), (22, .one (.c (.int .i64 t22)))], [((0, 1), .box ((((((((((((GPending.cs t2).map A.c).set 10 .nil).set 11 .nil).set 15 .nil).set 16 .nil).set 18 .nil).set 19 .nil).set 20 .nil).set 21 .nil).set 22 .nil).set 23 .nil)), ((1, 1), .box ((((GPending.cs p_t4).map A.c).set 10 (.own 2 1)).set 11 (.own 3 1))), ((2, 1), .arr 28 5 (E.GVal.L p_t4.Input.Items)), ((3, 1), .arr 9 1 (E.str.L p_t4.Input.Keys))]⟩
noncomputable def a16 (l_0 : List GEvent) : Cert prog J16 (GPending × Int) :=
 .len E.GEvent l_0 <|
 .ite 10 ((l_0.length : Int) == 0)
 (.ret (zP, 4))
 (.elem E.GEvent l_0 0 fun a1 =>
 .call m60 a1 fun r2 =>
 .cut E.GEvent l_0 1 (l_0.length : Int) <|
 .len E.GEvent ((l_0.take ((l_0.length : Int) : Int).toNat).drop (1 : Int).toNat) <|
 .jump (.s0 zP r2.1 r2.2 ((l_0.take ((l_0.length : Int) : Int).toNat).drop (1 : Int).toNat) (((l_0.take ((l_0.length : Int) : Int).toNat).drop (1 : Int).toNat).length : Int) 0) [(2000, 1), (4000, 1), (16010, 1), (16011, 1)])
noncomputable def c16 : J16 → Cert prog J16 (GPending × Int)
| .s0 t2 p_t4 e_t5 t20 t21 t22 =>
 .ite 23 (decide (t22 < t21))
 (.elem E.GEvent t20 t22 fun a3 =>
 .ite 27 (e_t5 != 0)
 (.ret (p_t4, e_t5))
 (.call m17 (p_t4, a3) fun r4 =>
 .frz 31015 2 <|
 .frz 31016 2 <|
 .frz 31018 2 <|
 .frz 31019 2 <|
 .frz 31020 2 <|
 .frz 31021 2 <|
 .frz 31022 2 <|
 .frz 31023 2 <|
 .jump (.s0 (nP t2) r4.1 r4.2 t20 t21 (IntKind.i64.wrap (t22 + 1))) [(0, 1), (1, 1), (31010, 2), (31011, 2)]))
 (.ret (p_t4, e_t5))
theorem h16 (l_0 : List GEvent) : tp prog x16 b16 (a16 l_0) (ES.init [.val (.one (.c (.sl (E.GEvent.L l_0))))]) :=
  of_triv (rs := x16.rs) (snap := x16.snap) (c := a16 l_0) (by kernel_rfl)
theorem g16 : ∀ j, ck prog x16 b16 c16 j
| .s0 t2 p_t4 e_t5 t20 t21 t22 => of_triv (rs := x16.rs) (snap := x16.snap) (c := c16 (.s0 t2 p_t4 e_t5 t20 t21 t22)) (by kernel_rfl)
noncomputable def m16 : Mir prog 16 (List GEvent) (GPending × Int) where
  fs := [.one none]
  ga := fun x => [.val (.one (.c (.sl (E.GEvent.L x))))]
  caps := fun x => []
  res := x16.res
  outs := x16.outs
  R := fun x y => Rn c16 (a16 x) y
  ok := fun x y h => sysA (cx := x16) follow func16 (h16 x) (g16) y h
  flat := false
  hflat := nofun
noncomputable def b70 : Code := f70.body.getD .skip
noncomputable def x70 : Cx Empty (GTimer × Bool) where
  nt := 18
  rvs := [.cell 4 49, .tmp 5]
  mh := []
  res := fun y => [.agg ((GTimer.cs y.1).map R.c), .one (.c (.bool y.2))]
  outs := fun y => []
  path := nofun
  sig := nofun
  snap := nofun
noncomputable def a70 (l_0 : List GTimer) (is_1 : Clo103) : Cert prog Empty (GTimer × Bool) :=
 .call m138 (l_0, is_1) fun r1 =>
 .ite 12 (decide (0 ≤ r1))
 (.elem E.GTimer l_0 r1 fun a2 =>
 .ret (a2, true))
 (.ret ((GTimer.mk 0 0 0), false))
noncomputable def c70 : Empty → Cert prog Empty (GTimer × Bool) := nofun
theorem h70 (l_0 : List GTimer) (is_1 : Clo103) : tp prog x70 b70 (a70 l_0 is_1) (ES.init [.val (.one (.c (.sl (E.GTimer.L l_0)))), .val (.one (.c (.fn is_1.f is_1.caps)))]) :=
  of_triv (rs := x70.rs) (snap := x70.snap) (c := a70 l_0 is_1) (by kernel_rfl)
theorem g70 : ∀ j, ck prog x70 b70 c70 j := nofun
noncomputable def m70 : Mir prog 70 ((List GTimer) × Clo103) (GTimer × Bool) where
  fs := [.one none, .one none]
  ga := fun x => [.val (.one (.c (.sl (E.GTimer.L x.1)))), .val (.one (.c (.fn x.2.f x.2.caps)))]
  caps := fun x => []
  res := x70.res
  outs := x70.outs
  R := fun x y => Rn c70 (a70 x.1 x.2) y
  ok := fun x y h => sysA (cx := x70) follow func70 (h70 x.1 x.2) (g70) y h
  flat := false
  hflat := nofun
noncomputable def b71 : Code := f71.body.getD .skip
noncomputable def x71 : Cx Empty Bool where
  nt := 8
  rvs := [.tmp 3]
  mh := []
  res := fun y => [.one (.c (.bool y))]
  outs := fun y => []
  path := nofun
  sig := nofun
  snap := nofun
noncomputable def a71 (t_0 : GTimer) (cap0 : Int) : Cert prog Empty Bool :=
 .ret (t_0.Seq == cap0)
noncomputable def c71 : Empty → Cert prog Empty Bool := nofun
theorem h71 (t_0 : GTimer) (cap0 : Int) : tp prog x71 b71 (a71 t_0 cap0) (ES.init [.val (.agg ((GTimer.cs t_0).map R.c)), .val (.one (.c (.ptr [(.int .i64 cap0)])))]) :=
  of_triv (rs := x71.rs) (snap := x71.snap) (c := a71 t_0 cap0) (by kernel_rfl)
theorem g71 : ∀ j, ck prog x71 b71 c71 j := nofun
noncomputable def m71 : Mir prog 71 (GTimer × Int) Bool where
  fs := [.agg (List.replicate 3 none)]
  ga := fun x => [.val (.agg ((GTimer.cs x.1).map R.c))]
  caps := fun x => [(.ptr [(.int .i64 x.2)])]
  res := x71.res
  outs := x71.outs
  R := fun x y => Rn c71 (a71 x.1 x.2) y
  ok := fun x y h => sysA (cx := x71) follow func71 (h71 x.1 x.2) (g71) y h
  flat := true
  hflat := fun _ _ => flatE rfl
noncomputable def b21 : Code := f21.body.getD .skip
noncomputable def x21 : Cx Empty (GTimer × Bool) where
  nt := 12
  rvs := [.cell 4 49, .tmp 5]
  mh := []
  res := fun y => [.agg ((GTimer.cs y.1).map R.c), .one (.c (.bool y.2))]
  outs := fun y => []
  path := nofun
  sig := nofun
  snap := nofun
noncomputable def a21 (p_0 : GPending) (seq_1 : Int) : Cert prog Empty (GTimer × Bool) :=
 .call m70 (p_0.Timers, (⟨71, [(.ptr [(.int .i64 seq_1)])], fun a b => m71.R (a, seq_1) b, fun a b h => m71.ok (a, seq_1) b h⟩ : Clo103)) fun r1 =>
 .ret (r1.1, r1.2)
noncomputable def c21 : Empty → Cert prog Empty (GTimer × Bool) := nofun
theorem h21 (p_0 : GPending) (seq_1 : Int) : tp prog x21 b21 (a21 p_0 seq_1) (ES.init [.val (.agg ((GPending.cs p_0).map R.c)), .val (.one (.c (.int .i64 seq_1)))]) :=
  of_triv (rs := x21.rs) (snap := x21.snap) (c := a21 p_0 seq_1) (by kernel_rfl)
theorem g21 : ∀ j, ck prog x21 b21 c21 j := nofun
noncomputable def m21 : Mir prog 21 (GPending × Int) (GTimer × Bool) where
  fs := [.agg (List.replicate 24 none), .one none]
  ga := fun x => [.val (.agg ((GPending.cs x.1).map R.c)), .val (.one (.c (.int .i64 x.2)))]
  caps := fun x => []
  res := x21.res
  outs := x21.outs
  R := fun x y => Rn c21 (a21 x.1 x.2) y
  ok := fun x y h => sysA (cx := x21) follow func21 (h21 x.1 x.2) (g21) y h
  flat := false
  hflat := nofun
noncomputable def b34 : Code := f34.body.getD .skip
noncomputable def x34 : Cx Empty Bool where
  nt := 9
  rvs := [.tmp 4]
  mh := []
  res := fun y => [.one (.c (.bool y))]
  outs := fun y => []
  path := nofun
  sig := nofun
  snap := nofun
noncomputable def a34 (p_0 : GPending) (id_1 : ByteArray) : Cert prog Empty Bool :=
 .call m81 (p_0.Requests, id_1) fun r1 =>
 .ret r1
noncomputable def c34 : Empty → Cert prog Empty Bool := nofun
theorem h34 (p_0 : GPending) (id_1 : ByteArray) : tp prog x34 b34 (a34 p_0 id_1) (ES.init [.val (.agg ((GPending.cs p_0).map R.c)), .val (.one (.c (.str id_1)))]) :=
  of_triv (rs := x34.rs) (snap := x34.snap) (c := a34 p_0 id_1) (by kernel_rfl)
theorem g34 : ∀ j, ck prog x34 b34 c34 j := nofun
noncomputable def m34 : Mir prog 34 (GPending × ByteArray) Bool where
  fs := [.agg (List.replicate 24 none), .one none]
  ga := fun x => [.val (.agg ((GPending.cs x.1).map R.c)), .val (.one (.c (.str x.2)))]
  caps := fun x => []
  res := x34.res
  outs := x34.outs
  R := fun x y => Rn c34 (a34 x.1 x.2) y
  ok := fun x y h => sysA (cx := x34) follow func34 (h34 x.1 x.2) (g34) y h
  flat := true
  hflat := fun _ _ => flatE rfl
noncomputable def b59 : Code := f59.body.getD .skip
noncomputable def x59 : Cx Empty (List GEvent) where
  nt := 13
  rvs := [.tmp 0]
  mh := []
  res := fun y => [.one (.own 43 24 (E.GEvent.L y))]
  outs := fun y => []
  path := nofun
  sig := nofun
  snap := nofun
noncomputable def a59 : Cert prog Empty (List GEvent) :=
 .bld E.GVal [zV, (GVal.mk 4 0 eB [] [])] <|
 .bld E.GEvent [(GEvent.mk 1 1 0 0 0 0 0 (⟨#[109, 97, 105, 110]⟩ : ByteArray) (⟨#[113]⟩ : ByteArray) (GVal.mk 4 0 eB [zV, (GVal.mk 4 0 eB [] [])] []) zO), (GEvent.mk 2 2 0 0 0 1 0 eB eB zV zO), (GEvent.mk 3 3 0 0 2 0 0 eB eB zV zO), (GEvent.mk 4 4 0 0 3 0 0 eB eB zV zO), (GEvent.mk 5 14 10 1 0 5 0 eB eB zV zO)] <|
 .ret [(GEvent.mk 1 1 0 0 0 0 0 (⟨#[109, 97, 105, 110]⟩ : ByteArray) (⟨#[113]⟩ : ByteArray) (GVal.mk 4 0 eB [zV, (GVal.mk 4 0 eB [] [])] []) zO), (GEvent.mk 2 2 0 0 0 1 0 eB eB zV zO), (GEvent.mk 3 3 0 0 2 0 0 eB eB zV zO), (GEvent.mk 4 4 0 0 3 0 0 eB eB zV zO), (GEvent.mk 5 14 10 1 0 5 0 eB eB zV zO)]
noncomputable def c59 : Empty → Cert prog Empty (List GEvent) := nofun
theorem h59 : tp prog x59 b59 (a59) (ES.init []) :=
  of_triv (rs := x59.rs) (snap := x59.snap) (c := a59) (by kernel_rfl)
theorem g59 : ∀ j, ck prog x59 b59 c59 j := nofun
noncomputable def m59 : Mir prog 59 Unit (List GEvent) where
  fs := []
  ga := fun x => []
  caps := fun x => []
  res := x59.res
  outs := x59.outs
  R := fun x y => Rn c59 (a59) y
  ok := fun x y h => sysA (cx := x59) follow func59 (h59) (g59) y h
  flat := false
  hflat := nofun
noncomputable def b15 : Code := f15.body.getD .skip
noncomputable def x15 : Cx Empty Bool where
  nt := 98
  rvs := [.tmp 0]
  mh := []
  res := fun y => [.one (.c (.bool y))]
  outs := fun y => []
  path := nofun
  sig := nofun
  snap := nofun
noncomputable def a15 : Cert prog Empty Bool :=
 .call m59 () fun r1 =>
 .call m16 r1 fun r2 =>
 .call m17 (r2.1, (GEvent.mk 6 15 15 1 5 0 0 eB eB zV zO)) fun r3 =>
 .call m17 (r2.1, (GEvent.mk 6 15 15 1 4 0 0 eB eB zV zO)) fun r4 =>
 .call m17 (r2.1, (GEvent.mk 6 17 15 0 0 0 0 (⟨#[115]⟩ : ByteArray) (⟨#[107]⟩ : ByteArray) zV zO)) fun r5 =>
 .call m17 (r5.1, (GEvent.mk 7 17 15 0 0 0 0 (⟨#[115]⟩ : ByteArray) (⟨#[107]⟩ : ByteArray) zV zO)) fun r6 =>
 .call m21 (r2.1, 1) fun r7 =>
 .ite 49 (r2.2 == 0)
 (.ite 54 (r2.1.Next == 6)
 (.ite 59 (r2.1.Task == 0)
 (.ite 64 (r2.1.Seq == 1)
 (.ite 67 r7.2
 (.ite 72 ((r7.1.Seq == 1) && ((r7.1.Event == 5) && ((r7.1.Due == 15) && true)))
 (.ite 76 (r3.2 == 0)
 (.len E.GTimer r3.1.Timers <|
 .ite 82 ((r3.1.Timers.length : Int) == 0)
 (.ite 86 (r4.2 == 15)
 (.ite 90 (r5.2 == 0)
 (.call m34 (r5.1, (⟨#[107]⟩ : ByteArray)) fun r8 =>
 .ite 94 r8
 (.ret (r6.2 == 9))
 (.ret false))
 (.ret false))
 (.ret false))
 (.ret false))
 (.ret false))
 (.ret false))
 (.ret false))
 (.ret false))
 (.ret false))
 (.ret false))
 (.ret false)
noncomputable def c15 : Empty → Cert prog Empty Bool := nofun
theorem h15 : tp prog x15 b15 (a15) (ES.init []) :=
  of_triv (rs := x15.rs) (snap := x15.snap) (c := a15) (by kernel_rfl)
theorem g15 : ∀ j, ck prog x15 b15 c15 j := nofun
noncomputable def m15 : Mir prog 15 Unit Bool where
  fs := []
  ga := fun x => []
  caps := fun x => []
  res := x15.res
  outs := x15.outs
  R := fun x y => Rn c15 (a15) y
  ok := fun x y h => sysA (cx := x15) follow func15 (h15) (g15) y h
  flat := true
  hflat := fun _ _ => flatE rfl
noncomputable def b67 : Code := f67.body.getD .skip
noncomputable def x67 : Cx Empty (GAct × Bool) where
  nt := 18
  rvs := [.cell 4 47, .tmp 5]
  mh := []
  res := fun y => [.agg ((GAct.cs y.1).map R.c), .one (.c (.bool y.2))]
  outs := fun y => []
  path := nofun
  sig := nofun
  snap := nofun
noncomputable def a67 (l_0 : List GAct) (is_1 : Clo100) : Cert prog Empty (GAct × Bool) :=
 .call m77 (l_0, is_1) fun r1 =>
 .ite 12 (decide (0 ≤ r1))
 (.elem E.GAct l_0 r1 fun a2 =>
 .ret (a2, true))
 (.ret ((GAct.mk 0 0 eB zV zO 0 0 0 0 0 0 0 false zV eB), false))
noncomputable def c67 : Empty → Cert prog Empty (GAct × Bool) := nofun
theorem h67 (l_0 : List GAct) (is_1 : Clo100) : tp prog x67 b67 (a67 l_0 is_1) (ES.init [.val (.one (.c (.sl (E.GAct.L l_0)))), .val (.one (.c (.fn is_1.f is_1.caps)))]) :=
  of_triv (rs := x67.rs) (snap := x67.snap) (c := a67 l_0 is_1) (by kernel_rfl)
theorem g67 : ∀ j, ck prog x67 b67 c67 j := nofun
noncomputable def m67 : Mir prog 67 ((List GAct) × Clo100) (GAct × Bool) where
  fs := [.one none, .one none]
  ga := fun x => [.val (.one (.c (.sl (E.GAct.L x.1)))), .val (.one (.c (.fn x.2.f x.2.caps)))]
  caps := fun x => []
  res := x67.res
  outs := x67.outs
  R := fun x y => Rn c67 (a67 x.1 x.2) y
  ok := fun x y h => sysA (cx := x67) follow func67 (h67 x.1 x.2) (g67) y h
  flat := false
  hflat := nofun
noncomputable def b68 : Code := f68.body.getD .skip
noncomputable def x68 : Cx Empty Bool where
  nt := 8
  rvs := [.tmp 3]
  mh := []
  res := fun y => [.one (.c (.bool y))]
  outs := fun y => []
  path := nofun
  sig := nofun
  snap := nofun
noncomputable def a68 (a_0 : GAct) (cap0 : Int) : Cert prog Empty Bool :=
 .ret (a_0.Seq == cap0)
noncomputable def c68 : Empty → Cert prog Empty Bool := nofun
theorem h68 (a_0 : GAct) (cap0 : Int) : tp prog x68 b68 (a68 a_0 cap0) (ES.init [.val (.agg ((GAct.cs a_0).map R.c)), .val (.one (.c (.ptr [(.int .i64 cap0)])))]) :=
  of_triv (rs := x68.rs) (snap := x68.snap) (c := a68 a_0 cap0) (by kernel_rfl)
theorem g68 : ∀ j, ck prog x68 b68 c68 j := nofun
noncomputable def m68 : Mir prog 68 (GAct × Int) Bool where
  fs := [.agg (List.replicate 32 none)]
  ga := fun x => [.val (.agg ((GAct.cs x.1).map R.c))]
  caps := fun x => [(.ptr [(.int .i64 x.2)])]
  res := x68.res
  outs := x68.outs
  R := fun x y => Rn c68 (a68 x.1 x.2) y
  ok := fun x y h => sysA (cx := x68) follow func68 (h68 x.1 x.2) (g68) y h
  flat := true
  hflat := fun _ _ => flatE rfl
noncomputable def b20 : Code := f20.body.getD .skip
noncomputable def x20 : Cx Empty (GAct × Bool) where
  nt := 18
  rvs := [.cell 4 47, .tmp 5]
  mh := []
  res := fun y => [.agg (((((((GAct.cs y.1).map R.c).set 6 (.own 28 5 (E.GVal.L y.1.Data.Items))).set 7 (.own 9 1 (E.str.L y.1.Data.Keys))).set 17 (.own 9 1 (E.str.L y.1.Opts.Fatal))).set 29 (.own 28 5 (E.GVal.L y.1.Details.Items))).set 30 (.own 9 1 (E.str.L y.1.Details.Keys))), .one (.c (.bool y.2))]
  outs := fun y => []
  path := nofun
  sig := nofun
  snap := nofun
noncomputable def a20 (p_0 : GPending) (seq_1 : Int) : Cert prog Empty (GAct × Bool) :=
 .call m67 (p_0.Acts, (⟨68, [(.ptr [(.int .i64 seq_1)])], fun a b => m68.R (a, seq_1) b, fun a b h => m68.ok (a, seq_1) b h⟩ : Clo100)) fun r1 =>
 .call m69 r1.1 fun r2 =>
 .ret (r2, r1.2)
noncomputable def c20 : Empty → Cert prog Empty (GAct × Bool) := nofun
theorem h20 (p_0 : GPending) (seq_1 : Int) : tp prog x20 b20 (a20 p_0 seq_1) (ES.init [.val (.agg ((GPending.cs p_0).map R.c)), .val (.one (.c (.int .i64 seq_1)))]) :=
  of_triv (rs := x20.rs) (snap := x20.snap) (c := a20 p_0 seq_1) (by kernel_rfl)
theorem g20 : ∀ j, ck prog x20 b20 c20 j := nofun
noncomputable def m20 : Mir prog 20 (GPending × Int) (GAct × Bool) where
  fs := [.agg (List.replicate 24 none), .one none]
  ga := fun x => [.val (.agg ((GPending.cs x.1).map R.c)), .val (.one (.c (.int .i64 x.2)))]
  caps := fun x => []
  res := x20.res
  outs := x20.outs
  R := fun x y => Rn c20 (a20 x.1 x.2) y
  ok := fun x y h => sysA (cx := x20) follow func20 (h20 x.1 x.2) (g20) y h
  flat := false
  hflat := nofun
noncomputable def b72 : Code := f72.body.getD .skip
noncomputable def x72 : Cx Empty (GKid × Bool) where
  nt := 18
  rvs := [.cell 4 51, .tmp 5]
  mh := []
  res := fun y => [.agg ((GKid.cs y.1).map R.c), .one (.c (.bool y.2))]
  outs := fun y => []
  path := nofun
  sig := nofun
  snap := nofun
noncomputable def a72 (l_0 : List GKid) (is_1 : Clo105) : Cert prog Empty (GKid × Bool) :=
 .call m139 (l_0, is_1) fun r1 =>
 .ite 12 (decide (0 ≤ r1))
 (.elem E.GKid l_0 r1 fun a2 =>
 .ret (a2, true))
 (.ret ((GKid.mk 0 0 eB eB 0 eB), false))
noncomputable def c72 : Empty → Cert prog Empty (GKid × Bool) := nofun
theorem h72 (l_0 : List GKid) (is_1 : Clo105) : tp prog x72 b72 (a72 l_0 is_1) (ES.init [.val (.one (.c (.sl (E.GKid.L l_0)))), .val (.one (.c (.fn is_1.f is_1.caps)))]) :=
  of_triv (rs := x72.rs) (snap := x72.snap) (c := a72 l_0 is_1) (by kernel_rfl)
theorem g72 : ∀ j, ck prog x72 b72 c72 j := nofun
noncomputable def m72 : Mir prog 72 ((List GKid) × Clo105) (GKid × Bool) where
  fs := [.one none, .one none]
  ga := fun x => [.val (.one (.c (.sl (E.GKid.L x.1)))), .val (.one (.c (.fn x.2.f x.2.caps)))]
  caps := fun x => []
  res := x72.res
  outs := x72.outs
  R := fun x y => Rn c72 (a72 x.1 x.2) y
  ok := fun x y h => sysA (cx := x72) follow func72 (h72 x.1 x.2) (g72) y h
  flat := false
  hflat := nofun
noncomputable def b73 : Code := f73.body.getD .skip
noncomputable def x73 : Cx Empty Bool where
  nt := 8
  rvs := [.tmp 3]
  mh := []
  res := fun y => [.one (.c (.bool y))]
  outs := fun y => []
  path := nofun
  sig := nofun
  snap := nofun
noncomputable def a73 (k_0 : GKid) (cap0 : Int) : Cert prog Empty Bool :=
 .ret (k_0.Seq == cap0)
noncomputable def c73 : Empty → Cert prog Empty Bool := nofun
theorem h73 (k_0 : GKid) (cap0 : Int) : tp prog x73 b73 (a73 k_0 cap0) (ES.init [.val (.agg ((GKid.cs k_0).map R.c)), .val (.one (.c (.ptr [(.int .i64 cap0)])))]) :=
  of_triv (rs := x73.rs) (snap := x73.snap) (c := a73 k_0 cap0) (by kernel_rfl)
theorem g73 : ∀ j, ck prog x73 b73 c73 j := nofun
noncomputable def m73 : Mir prog 73 (GKid × Int) Bool where
  fs := [.agg (List.replicate 6 none)]
  ga := fun x => [.val (.agg ((GKid.cs x.1).map R.c))]
  caps := fun x => [(.ptr [(.int .i64 x.2)])]
  res := x73.res
  outs := x73.outs
  R := fun x y => Rn c73 (a73 x.1 x.2) y
  ok := fun x y h => sysA (cx := x73) follow func73 (h73 x.1 x.2) (g73) y h
  flat := true
  hflat := fun _ _ => flatE rfl
noncomputable def b22 : Code := f22.body.getD .skip
noncomputable def x22 : Cx Empty (GKid × Bool) where
  nt := 12
  rvs := [.cell 4 51, .tmp 5]
  mh := []
  res := fun y => [.agg ((GKid.cs y.1).map R.c), .one (.c (.bool y.2))]
  outs := fun y => []
  path := nofun
  sig := nofun
  snap := nofun
noncomputable def a22 (p_0 : GPending) (seq_1 : Int) : Cert prog Empty (GKid × Bool) :=
 .call m72 (p_0.Kids, (⟨73, [(.ptr [(.int .i64 seq_1)])], fun a b => m73.R (a, seq_1) b, fun a b h => m73.ok (a, seq_1) b h⟩ : Clo105)) fun r1 =>
 .ret (r1.1, r1.2)
noncomputable def c22 : Empty → Cert prog Empty (GKid × Bool) := nofun
theorem h22 (p_0 : GPending) (seq_1 : Int) : tp prog x22 b22 (a22 p_0 seq_1) (ES.init [.val (.agg ((GPending.cs p_0).map R.c)), .val (.one (.c (.int .i64 seq_1)))]) :=
  of_triv (rs := x22.rs) (snap := x22.snap) (c := a22 p_0 seq_1) (by kernel_rfl)
theorem g22 : ∀ j, ck prog x22 b22 c22 j := nofun
noncomputable def m22 : Mir prog 22 (GPending × Int) (GKid × Bool) where
  fs := [.agg (List.replicate 24 none), .one none]
  ga := fun x => [.val (.agg ((GPending.cs x.1).map R.c)), .val (.one (.c (.int .i64 x.2)))]
  caps := fun x => []
  res := x22.res
  outs := x22.outs
  R := fun x y => Rn c22 (a22 x.1 x.2) y
  ok := fun x y h => sysA (cx := x22) follow func22 (h22 x.1 x.2) (g22) y h
  flat := false
  hflat := nofun
noncomputable def b74 : Code := f74.body.getD .skip
noncomputable def x74 : Cx Empty (GSend × Bool) where
  nt := 18
  rvs := [.cell 4 53, .tmp 5]
  mh := []
  res := fun y => [.agg ((GSend.cs y.1).map R.c), .one (.c (.bool y.2))]
  outs := fun y => []
  path := nofun
  sig := nofun
  snap := nofun
noncomputable def a74 (l_0 : List GSend) (is_1 : Clo107) : Cert prog Empty (GSend × Bool) :=
 .call m140 (l_0, is_1) fun r1 =>
 .ite 12 (decide (0 ≤ r1))
 (.elem E.GSend l_0 r1 fun a2 =>
 .ret (a2, true))
 (.ret ((GSend.mk 0 0 eB eB), false))
noncomputable def c74 : Empty → Cert prog Empty (GSend × Bool) := nofun
theorem h74 (l_0 : List GSend) (is_1 : Clo107) : tp prog x74 b74 (a74 l_0 is_1) (ES.init [.val (.one (.c (.sl (E.GSend.L l_0)))), .val (.one (.c (.fn is_1.f is_1.caps)))]) :=
  of_triv (rs := x74.rs) (snap := x74.snap) (c := a74 l_0 is_1) (by kernel_rfl)
theorem g74 : ∀ j, ck prog x74 b74 c74 j := nofun
noncomputable def m74 : Mir prog 74 ((List GSend) × Clo107) (GSend × Bool) where
  fs := [.one none, .one none]
  ga := fun x => [.val (.one (.c (.sl (E.GSend.L x.1)))), .val (.one (.c (.fn x.2.f x.2.caps)))]
  caps := fun x => []
  res := x74.res
  outs := x74.outs
  R := fun x y => Rn c74 (a74 x.1 x.2) y
  ok := fun x y h => sysA (cx := x74) follow func74 (h74 x.1 x.2) (g74) y h
  flat := false
  hflat := nofun
noncomputable def b75 : Code := f75.body.getD .skip
noncomputable def x75 : Cx Empty Bool where
  nt := 8
  rvs := [.tmp 3]
  mh := []
  res := fun y => [.one (.c (.bool y))]
  outs := fun y => []
  path := nofun
  sig := nofun
  snap := nofun
noncomputable def a75 (s_0 : GSend) (cap0 : Int) : Cert prog Empty Bool :=
 .ret (s_0.Seq == cap0)
noncomputable def c75 : Empty → Cert prog Empty Bool := nofun
theorem h75 (s_0 : GSend) (cap0 : Int) : tp prog x75 b75 (a75 s_0 cap0) (ES.init [.val (.agg ((GSend.cs s_0).map R.c)), .val (.one (.c (.ptr [(.int .i64 cap0)])))]) :=
  of_triv (rs := x75.rs) (snap := x75.snap) (c := a75 s_0 cap0) (by kernel_rfl)
theorem g75 : ∀ j, ck prog x75 b75 c75 j := nofun
noncomputable def m75 : Mir prog 75 (GSend × Int) Bool where
  fs := [.agg (List.replicate 4 none)]
  ga := fun x => [.val (.agg ((GSend.cs x.1).map R.c))]
  caps := fun x => [(.ptr [(.int .i64 x.2)])]
  res := x75.res
  outs := x75.outs
  R := fun x y => Rn c75 (a75 x.1 x.2) y
  ok := fun x y h => sysA (cx := x75) follow func75 (h75 x.1 x.2) (g75) y h
  flat := true
  hflat := fun _ _ => flatE rfl
noncomputable def b23 : Code := f23.body.getD .skip
noncomputable def x23 : Cx Empty (GSend × Bool) where
  nt := 12
  rvs := [.cell 4 53, .tmp 5]
  mh := []
  res := fun y => [.agg ((GSend.cs y.1).map R.c), .one (.c (.bool y.2))]
  outs := fun y => []
  path := nofun
  sig := nofun
  snap := nofun
noncomputable def a23 (p_0 : GPending) (seq_1 : Int) : Cert prog Empty (GSend × Bool) :=
 .call m74 (p_0.Sends, (⟨75, [(.ptr [(.int .i64 seq_1)])], fun a b => m75.R (a, seq_1) b, fun a b h => m75.ok (a, seq_1) b h⟩ : Clo107)) fun r1 =>
 .ret (r1.1, r1.2)
noncomputable def c23 : Empty → Cert prog Empty (GSend × Bool) := nofun
theorem h23 (p_0 : GPending) (seq_1 : Int) : tp prog x23 b23 (a23 p_0 seq_1) (ES.init [.val (.agg ((GPending.cs p_0).map R.c)), .val (.one (.c (.int .i64 seq_1)))]) :=
  of_triv (rs := x23.rs) (snap := x23.snap) (c := a23 p_0 seq_1) (by kernel_rfl)
theorem g23 : ∀ j, ck prog x23 b23 c23 j := nofun
noncomputable def m23 : Mir prog 23 (GPending × Int) (GSend × Bool) where
  fs := [.agg (List.replicate 24 none), .one none]
  ga := fun x => [.val (.agg ((GPending.cs x.1).map R.c)), .val (.one (.c (.int .i64 x.2)))]
  caps := fun x => []
  res := x23.res
  outs := x23.outs
  R := fun x y => Rn c23 (a23 x.1 x.2) y
  ok := fun x y h => sysA (cx := x23) follow func23 (h23 x.1 x.2) (g23) y h
  flat := false
  hflat := nofun
inductive J24 where
| s0 (t2 : GPending) (out_t3 : GPending) (t10 : Int) (t11 : Int)
noncomputable def b24 : Code := f24.body.getD .skip
noncomputable def x24 : Cx J24 GPending where
  nt := 39
  rvs := [.cell 2 35]
  mh := []
  res := fun y => [.agg ((((((((((((GPending.cs y).map R.c).set 10 (.own 28 5 (E.GVal.L y.Input.Items))).set 11 (.own 9 1 (E.str.L y.Input.Keys))).set 15 (.own 28 5 (E.GVal.L y.Attrs.Items))).set 16 (.own 9 1 (E.str.L y.Attrs.Keys))).set 18 (.own 47 32 (E.GAct.L y.Acts))).set 19 (.own 49 3 (E.GTimer.L y.Timers))).set 20 (.own 51 6 (E.GKid.L y.Kids))).set 21 (.own 53 4 (E.GSend.L y.Sends))).set 22 (.own 118 2 (E.GUpd.L y.Updates))).set 23 (.own 9 1 (E.str.L y.Requests)))]
  outs := fun y => []
  path := fun
    | .s0 _ _ _ _ => [0, 1, 0, 1, 1]
  sig := fun
    | .s0 _ _ _ _ => [2, 3, 9, 10, 11]
  snap := fun
    | .s0 t2 out_t3 t10 t11 => ⟨[(2, .one (.ptr 0 1 0)), (3, .one (.ptr 1 1 0)), (9, .one (.own 6 1)), (10, .one (.c (.int .i64 t10))), (11, .one (.c (.int .i64 t11)))], [((0, 1), .box ((((((((((((GPending.cs t2).map A.c).set 10 .nil).set 11 .nil).set 15 .nil).set 16 .nil).set 18 .nil).set 19 .nil).set 20 .nil).set 21 .nil).set 22 .nil).set 23 .nil)), ((1, 1), .box ((((((((((((GPending.cs out_t3).map A.c).set 10 (.own 2 1)).set 11 (.own 3 1)).set 15 (.own 4 1)).set 16 (.own 5 1)).set 18 (.own 6 1)).set 19 (.own 7 1)).set 20 (.own 8 1)).set 21 (.own 9 1)).set 22 (.own 10 1)).set 23 (.own 11 1))), ((2, 1), .arr 28 5 (E.GVal.L out_t3.Input.Items)), ((3, 1), .arr 9 1 (E.str.L out_t3.Input.Keys)), ((4, 1), .arr 28 5 (E.GVal.L out_t3.Attrs.Items)), ((5, 1), .arr 9 1 (E.str.L out_t3.Attrs.Keys)), ((6, 1), .arr 47 32 (E.GAct.L out_t3.Acts)), ((7, 1), .arr 49 3 (E.GTimer.L out_t3.Timers)), ((8, 1), .arr 51 6 (E.GKid.L out_t3.Kids)), ((9, 1), .arr 53 4 (E.GSend.L out_t3.Sends)), ((10, 1), .arr 118 2 (E.GUpd.L out_t3.Updates)), ((11, 1), .arr 9 1 (E.str.L out_t3.Requests))]⟩
noncomputable def a24 (p_0 : GPending) : Cert prog J24 GPending :=
 .call m62 p_0 fun r1 =>
 .len E.GAct r1.Acts <|
 .jump (.s0 zP r1 (r1.Acts.length : Int) 0) [(2000, 1), (3000, 1), (7010, 1), (7011, 1), (7015, 1), (7016, 1), (7018, 1), (7019, 1), (7020, 1), (7021, 1), (7022, 1), (7023, 1)]
noncomputable def c24 : J24 → Cert prog J24 GPending
| .s0 t2 out_t3 t10 t11 =>
 .ite 12 (decide (t11 < t10))
 (.idx E.GAct out_t3.Acts t11 <|
 .eget E.GAct out_t3.Acts t11.toNat fun a2 =>
 .idx E.GAct out_t3.Acts t11 <|
 .eset E.GAct out_t3.Acts t11.toNat (fun _ => (GAct.mk a2.Seq a2.Event a2.Name a2.Data a2.Opts 1 1 a2.Scheduled a2.Scheduled 0 0 0 a2.Cancel zV eB)) <|
 .jump (.s0 (nP t2) (GPending.mk out_t3.Next out_t3.Status out_t3.Task out_t3.TaskID out_t3.Attempt out_t3.Seq out_t3.Name out_t3.Input out_t3.Attrs out_t3.Cancel (out_t3.Acts.modify t11.toNat (fun _ => (GAct.mk a2.Seq a2.Event a2.Name a2.Data a2.Opts 1 1 a2.Scheduled a2.Scheduled 0 0 0 a2.Cancel zV eB))) out_t3.Timers out_t3.Kids out_t3.Sends out_t3.Updates out_t3.Requests) t10 (IntKind.i64.wrap (t11 + 1))) [(0, 1), (1, 1), (2, 1), (3, 1), (4, 1), (5, 1), (6, 1), (7, 1), (8, 1), (9, 1), (10, 1), (11, 1)])
 (.ret out_t3)
theorem h24 (p_0 : GPending) : tp prog x24 b24 (a24 p_0) (ES.init [.val (.agg ((GPending.cs p_0).map R.c))]) :=
  of_triv (rs := x24.rs) (snap := x24.snap) (c := a24 p_0) (by kernel_rfl)
theorem g24 : ∀ j, ck prog x24 b24 c24 j
| .s0 t2 out_t3 t10 t11 => of_triv (rs := x24.rs) (snap := x24.snap) (c := c24 (.s0 t2 out_t3 t10 t11)) (by kernel_rfl)
noncomputable def m24 : Mir prog 24 GPending GPending where
  fs := [.agg (List.replicate 24 none)]
  ga := fun x => [.val (.agg ((GPending.cs x).map R.c))]
  caps := fun x => []
  res := x24.res
  outs := x24.outs
  R := fun x y => Rn c24 (a24 x) y
  ok := fun x y h => sysA (cx := x24) follow func24 (h24 x) (g24) y h
  flat := false
  hflat := nofun
noncomputable def b78 : Code := f78.body.getD .skip
noncomputable def x78 : Cx Empty Bool where
  nt := 9
  rvs := [.tmp 3]
  mh := []
  res := fun y => [.one (.c (.bool y))]
  outs := fun y => []
  path := nofun
  sig := nofun
  snap := nofun
noncomputable def a78 (x_0 : GAct) (cap0 : GAct) : Cert prog Empty Bool :=
 .ret (x_0.Seq == cap0.Seq)
noncomputable def c78 : Empty → Cert prog Empty Bool := nofun
theorem h78 (x_0 : GAct) (cap0 : GAct) : tp prog x78 b78 (a78 x_0 cap0) (ES.init [.val (.agg ((GAct.cs x_0).map R.c)), .val (.one (.c (.ptr (GAct.cs cap0))))]) :=
  of_triv (rs := x78.rs) (snap := x78.snap) (c := a78 x_0 cap0) (by kernel_rfl)
theorem g78 : ∀ j, ck prog x78 b78 c78 j := nofun
noncomputable def m78 : Mir prog 78 (GAct × GAct) Bool where
  fs := [.agg (List.replicate 32 none)]
  ga := fun x => [.val (.agg ((GAct.cs x.1).map R.c))]
  caps := fun x => [(.ptr (GAct.cs x.2))]
  res := x78.res
  outs := x78.outs
  R := fun x y => Rn c78 (a78 x.1 x.2) y
  ok := fun x y h => sysA (cx := x78) follow func78 (h78 x.1 x.2) (g78) y h
  flat := true
  hflat := fun _ _ => flatE rfl
noncomputable def b26 : Code := f26.body.getD .skip
noncomputable def x26 : Cx Empty (GPending × Bool) where
  nt := 24
  rvs := [.cell 4 35, .tmp 5]
  mh := []
  res := fun y => [.agg ((((((((((((GPending.cs y.1).map R.c).set 10 (.own 28 5 (E.GVal.L y.1.Input.Items))).set 11 (.own 9 1 (E.str.L y.1.Input.Keys))).set 15 (.own 28 5 (E.GVal.L y.1.Attrs.Items))).set 16 (.own 9 1 (E.str.L y.1.Attrs.Keys))).set 18 (.own 47 32 (E.GAct.L y.1.Acts))).set 19 (.own 49 3 (E.GTimer.L y.1.Timers))).set 20 (.own 51 6 (E.GKid.L y.1.Kids))).set 21 (.own 53 4 (E.GSend.L y.1.Sends))).set 22 (.own 118 2 (E.GUpd.L y.1.Updates))).set 23 (.own 9 1 (E.str.L y.1.Requests))), .one (.c (.bool y.2))]
  outs := fun y => []
  path := nofun
  sig := nofun
  snap := nofun
noncomputable def a26 (p_0 : GPending) (a_1 : GAct) : Cert prog Empty (GPending × Bool) :=
 .call m77 (p_0.Acts, (⟨78, [(.ptr (GAct.cs a_1))], fun a b => m78.R (a, a_1) b, fun a b h => m78.ok (a, a_1) b h⟩ : Clo100)) fun r1 =>
 .ite 13 (decide (r1 < 0))
 (.ret (zP, false))
 (.call m62 p_0 fun r2 =>
 .call (m69).weak a_1 fun r3 =>
 .idx E.GAct r2.Acts r1 <|
 .eset E.GAct r2.Acts r1.toNat (fun _ => r3) <|
 .ret ((GPending.mk r2.Next r2.Status r2.Task r2.TaskID r2.Attempt r2.Seq r2.Name r2.Input r2.Attrs r2.Cancel (r2.Acts.modify r1.toNat (fun _ => r3)) r2.Timers r2.Kids r2.Sends r2.Updates r2.Requests), true))
noncomputable def c26 : Empty → Cert prog Empty (GPending × Bool) := nofun
theorem h26 (p_0 : GPending) (a_1 : GAct) : tp prog x26 b26 (a26 p_0 a_1) (ES.init [.val (.agg ((GPending.cs p_0).map R.c)), .val (.agg ((GAct.cs a_1).map R.c))]) :=
  of_triv (rs := x26.rs) (snap := x26.snap) (c := a26 p_0 a_1) (by kernel_rfl)
theorem g26 : ∀ j, ck prog x26 b26 c26 j := nofun
noncomputable def m26 : Mir prog 26 (GPending × GAct) (GPending × Bool) where
  fs := [.agg (List.replicate 24 none), .agg (List.replicate 32 none)]
  ga := fun x => [.val (.agg ((GPending.cs x.1).map R.c)), .val (.agg ((GAct.cs x.2).map R.c))]
  caps := fun x => []
  res := x26.res
  outs := x26.outs
  R := fun x y => Rn c26 (a26 x.1 x.2) y
  ok := fun x y h => sysA (cx := x26) follow func26 (h26 x.1 x.2) (g26) y h
  flat := false
  hflat := nofun
end Tryz
end Go.Proofs
end
