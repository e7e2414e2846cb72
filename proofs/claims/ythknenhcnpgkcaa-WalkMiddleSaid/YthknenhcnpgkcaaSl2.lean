import Derived.Test.YthknenhcnpgkcaaSl1
import Derived.WalkSpells
/- Contracts of package slices at items and at pointers to nodes: Delete, Clone. -/
namespace Go.Proofs.Ythknenhcnpgkcaa
set_option linter.unusedVariables false
set_option linter.unusedSimpArgs false
open Go.RowKit
theorem row_open {W : World} {e : TypeId} {size r n cap : Nat} {xs : List Value} (hi : Row W e size (.slice (some ⟨r, 0, none⟩) n cap) n xs) : ∃ cur : Array Value, cap ≤ maxLen ∧ n ≤ cap ∧ W.heap[r]? = some (.cells cur e) ∧ cur.size = cap * size ∧ cur.toList.take (n * size) = xs := by
  rcases hi.2 with ⟨h, _⟩ | ⟨g, c, cur, hv, _, hh, hnc, hm, hc, ht⟩
  · cases h
  · injection hv with h2 _ h3
    injection h2 with h2
    obtain rfl : r = g := congrArg Addr.block h2
    subst h3
    exact ⟨cur, hm, hnc, hh, hc, ht⟩
theorem Row.some_of {W : World} {e : TypeId} {size n : Nat} {v : Value} {xs : List Value} (hi : Row W e size v n xs) (hn : 0 < n) : ∃ r cap, v = .slice (some ⟨r, 0, none⟩) n cap := by
  obtain ⟨r, cap, h, _, _⟩ := World.ownsRow.form hi hn
  exact ⟨r, cap, h⟩
theorem del_cells (L Z : List Value) (a b : List Value) (k : Nat) (h : (a ++ b).length = k) (R : List Value) (hL : L = a ++ b ++ R) : (L.take k ++ Z ++ L.drop (k + Z.length)).take k = a ++ b := by
  subst hL
  rw [List.append_assoc (List.take k _), List.take_left' (by rw [List.length_take, List.length_append]; omega)]
  exact List.take_left' h
set_option maxRecDepth 100000 in
set_option maxHeartbeats 4000000 in
theorem delete_item (W : World) (r cap n : Nat) (xs : List Value) (hi : Row W 34 2 (.slice (some ⟨r, 0, none⟩) (n + 1) cap) (n + 1) xs) (hn : n ≤ 1000) (h1 : ∀ u ∈ xs, u.oneCell' = true) (i : Nat) (hin : i ≤ n) :
    Calls Try.prog 122 #[.slice (some ⟨r, 0, none⟩) (n + 1) cap, .int .i64 i, .int .i64 ((i : Int) + 1)] W fun en W' => en = .returned (.slice (some ⟨r, 0, none⟩) n cap) ∧ Row W' 34 2 (.slice (some ⟨r, 0, none⟩) n cap) n (xs.take (i * 2) ++ xs.drop ((i + 1) * 2)) ∧ Chg (fun k => k = r) W W' := by
  obtain ⟨i0, hi0, hz0, hz1, hz2⟩ := info_parts item_info
  obtain ⟨cur, hcap, hnc, hr, hcs, htk⟩ := row_open hi
  unfold maxLen at hcap
  have hxl := hi.1
  obtain ⟨M, hM⟩ : ∃ M, M = xs.drop ((i + 1) * 2) := ⟨_, rfl⟩
  have hMl : M.length = (n - i) * 2 := by rw [hM, List.length_drop, hxl]; omega
  have hMc : ∀ j u, M[j]? = some u → cur.toList[(i + 1) * 2 + j]? = some u := by
    intro j u hu
    rw [hM, List.getElem?_drop, ← htk, List.getElem?_take] at hu
    split at hu
    · exact hu
    · cases hu
  have hM1 : ∀ u ∈ M, u.oneCell' = true := fun u hu => h1 u (by rw [hM] at hu; exact List.mem_of_mem_drop hu)
  obtain ⟨L1, hL1⟩ : ∃ L1, L1 = cur.toList.take (i * 2) ++ M ++ cur.toList.drop (i * 2 + M.length) := ⟨_, rfl⟩
  have hL1l : L1.length = cap * 2 := by rw [hL1]; simp [hMl, hcs]; omega
  obtain ⟨W1, hW1⟩ : ∃ W1, W1 = put W.drew r (.cells L1.toArray 34) := ⟨_, rfl⟩
  have hr1 : W1.heap[r]? = some (.cells L1.toArray 34) := by rw [hW1]; exact heap_put_at _ _ _ (lt_of_heap hr)
  have hap : ∀ (A : Addr) (c : Nat), (∀ j u, M[j]? = some u → W.drew.cell? (A.add j) = some u) → (Builtin.append_ #[28, 28] 28 #[.slice (some ⟨r, 0, none⟩) i cap, .slice (some A) (n - i) c]).run Try.prog W.drew = .ok (.slice (some ⟨r, 0, none⟩) n cap) W1 := by
    intro A c hA
    have := run_append_room (P := Try.prog) W.drew 28 28 34 i0 Try.underlying28 hi0 r i cap cur hr A (n - i) c M (by rw [hMl, hz1]) hA hM1 (by omega) (by rw [hz1, hMl, hcs]; omega)
    rw [this, setRow_put (W := W.drew) hr, hW1, hL1, hz1, show i + (n - i) = n from by omega]
  have hzc : (Value.cells (.agg #[.string ⟨#[]⟩, .string ⟨#[]⟩])).size = 2 := rfl
  obtain ⟨W2, hW2⟩ : ∃ W2, W2 = put W1 r (.cells (L1.take (n * 2) ++ zerosOf (.agg #[.string ⟨#[]⟩, .string ⟨#[]⟩]) 1 ++ L1.drop (n * 2 + (zerosOf (.agg #[.string ⟨#[]⟩, .string ⟨#[]⟩]) 1).length)).toArray 34) := ⟨_, rfl⟩
  have hcl : ∀ ty c, (Builtin.clear_ #[28] ty #[.slice (some ⟨r, n * 2, none⟩) 1 c]).run Try.prog W1 = .ok (.tuple #[]) W2 := by
    intro ty c
    rw [show n * 2 = n * 2 from by omega]
    have := run_clear_many (P := Try.prog) W1 28 34 ty (.agg #[.string ⟨#[]⟩, .string ⟨#[]⟩]) Try.underlying28 (fun w => by simp [zeroValue, typeInfo, hi0, hz0]) (by decide) r (n * 2) 1 c (by omega) L1.toArray 34 hr1 (by simp [hL1l, hzc]; omega)
    rw [this, hW2]
  have hfin : Row W2 34 2 (.slice (some ⟨r, 0, none⟩) n cap) n (xs.take (i * 2) ++ M) := by
    refine ⟨by rw [List.length_append, List.length_take, hMl, hxl]; omega, .inr ⟨r, cap, _, rfl, Nat.zero_le _, by rw [hW2]; exact heap_put_at _ _ _ (lt_of_heap hr1), by omega, by unfold maxLen; omega, ?_, ?_⟩⟩
    · simp [zerosOf_len, hzc, hL1l]; omega
    · have hx : xs.take (i * 2) = cur.toList.take (i * 2) := by rw [← htk, List.take_take, Nat.min_eq_left (by omega)]
      rw [hx]
      exact del_cells L1 _ _ _ _ (by rw [List.length_append, List.length_take, hMl]; simp [hcs]; omega) _ hL1
  have hch : Chg (fun k => k = r) W W2 := by
    rw [hW2, hW1]
    exact (((Chg.refl (fun k => k = r) W).drew).put (fun _ => rfl) _).put (fun _ => rfl) _
  rw [← hM]
  have hcA : ∀ j u, M[j]? = some u → W.drew.cell? ((⟨r, (i + 1) * 2, none⟩ : Addr).add j) = some u := news_at (W := W.drew) hr _ _ (by simpa using hMc)
  have H2 := hid hfin
  have H3 := hid hch
  have hne : ((i : Int) == (i : Int) + 1) = false := by rw [beq_eq_false_iff_ne]; omega
  have HN : n + 1 - n = 1 := by omega
  have hb6 : ¬ (cap = n) := by omega
  have hb7 : (n : Int) ≤ (n : Int) + 1 := by omega
  rcases Decidable.em (cap = i + 1) with hc | hc
  · obtain rfl : n = i := by omega
    have HA := hid (hap ⟨r, 0, none⟩ 0 (by intro j u hu; have := (List.getElem?_eq_some_iff.1 hu).1; rw [hMl] at this; omega))
    rw [Nat.sub_self] at HA
    subst hc
    clear hfin hch hcA hap hr1 hr hMc hM hM1 hL1 hL1l hW1 hW2 htk hcs h1 hi hxl hMl
    go_enter Try.func122, Try.ntmps122
    go_wp2
    have htn : ((n : Int) + 1).toNat = n + 1 := by omega
    have hb1 : (0 : Int) ≤ (n : Int) + 1 := by omega
    go_region_law (refine step_append_run (by rfl) _ _ _ (by rfl) _ _ (by simp [Act.eval, Act.put]) (by simp [Act.eval, Act.put]) _ _ HA.out ?_)
    clear htn hb1
    go_wp2_with (first | (refine wpList_clear_run (by rfl) _ _ (by rfl) _ (by rfl) _ _ (hcl _ _) ?_))
    go_ret
    exact ⟨rfl, H2.out, H3.out⟩
  · have HA := hid (hap ⟨r, (i + 1) * 2, none⟩ (cap - (i + 1)) hcA)
    clear hfin hch hcA hap hr1 hr hMc hM hM1 hL1 hL1l hW1 hW2 htk hcs h1 hi hxl hMl
    go_enter Try.func122, Try.ntmps122
    go_wp2
    have htn : ((i : Int) + 1).toNat = i + 1 := by omega
    have hb1 : (0 : Int) ≤ (i : Int) + 1 := by omega
    have hb3 : (i : Int) + 1 ≤ (n : Int) + 1 := by omega
    have hb5 : (i : Int) ≤ (n : Int) + 1 := by omega
    have hb8 : i ≤ cap := by omega
    go_region_law (refine step_append_run (by rfl) _ _ _ (by rfl) _ _ (by simp [Act.eval, Act.put]) (by simp [Act.eval, Act.put]) _ _ HA.out ?_)
    clear htn hb1 hb3 hb5
    go_wp2_with (first | (refine wpList_clear_run (by rfl) _ _ (by rfl) _ (by rfl) _ _ (hcl _ _) ?_))
    go_ret
    exact ⟨rfl, H2.out, H3.out⟩
set_option maxRecDepth 100000 in
set_option maxHeartbeats 4000000 in
theorem delete_ptr (W : World) (r cap n : Nat) (xs : List Value) (hi : Row W 110 1 (.slice (some ⟨r, 0, none⟩) (n + 1) cap) (n + 1) xs) (hn : n ≤ 1000) (h1 : ∀ u ∈ xs, u.oneCell' = true) (i : Nat) (hin : i ≤ n) :
    Calls Try.prog 150 #[.slice (some ⟨r, 0, none⟩) (n + 1) cap, .int .i64 i, .int .i64 ((i : Int) + 1)] W fun en W' => en = .returned (.slice (some ⟨r, 0, none⟩) n cap) ∧ Row W' 110 1 (.slice (some ⟨r, 0, none⟩) n cap) n (xs.take (i * 1) ++ xs.drop ((i + 1) * 1)) ∧ Chg (fun k => k = r) W W' := by
  obtain ⟨i0, hi0, hz0, hz1, hz2⟩ := info_parts ptr_info
  obtain ⟨cur, hcap, hnc, hr, hcs, htk⟩ := row_open hi
  unfold maxLen at hcap
  have hxl := hi.1
  obtain ⟨M, hM⟩ : ∃ M, M = xs.drop ((i + 1) * 1) := ⟨_, rfl⟩
  have hMl : M.length = (n - i) * 1 := by rw [hM, List.length_drop, hxl]; omega
  have hMc : ∀ j u, M[j]? = some u → cur.toList[(i + 1) * 1 + j]? = some u := by
    intro j u hu
    rw [hM, List.getElem?_drop, ← htk, List.getElem?_take] at hu
    split at hu
    · exact hu
    · cases hu
  have hM1 : ∀ u ∈ M, u.oneCell' = true := fun u hu => h1 u (by rw [hM] at hu; exact List.mem_of_mem_drop hu)
  obtain ⟨L1, hL1⟩ : ∃ L1, L1 = cur.toList.take (i * 1) ++ M ++ cur.toList.drop (i * 1 + M.length) := ⟨_, rfl⟩
  have hL1l : L1.length = cap * 1 := by rw [hL1]; simp [hMl, hcs]; omega
  obtain ⟨W1, hW1⟩ : ∃ W1, W1 = put W.drew r (.cells L1.toArray 110) := ⟨_, rfl⟩
  have hr1 : W1.heap[r]? = some (.cells L1.toArray 110) := by rw [hW1]; exact heap_put_at _ _ _ (lt_of_heap hr)
  have hap : ∀ (A : Addr) (c : Nat), (∀ j u, M[j]? = some u → W.drew.cell? (A.add j) = some u) → (Builtin.append_ #[116, 116] 116 #[.slice (some ⟨r, 0, none⟩) i cap, .slice (some A) (n - i) c]).run Try.prog W.drew = .ok (.slice (some ⟨r, 0, none⟩) n cap) W1 := by
    intro A c hA
    have := run_append_room (P := Try.prog) W.drew 116 116 110 i0 Try.underlying116 hi0 r i cap cur hr A (n - i) c M (by rw [hMl, hz1]) hA hM1 (by omega) (by rw [hz1, hMl, hcs]; omega)
    rw [this, setRow_put (W := W.drew) hr, hW1, hL1, hz1, show i + (n - i) = n from by omega]
  have hzc : (Value.cells (.pointer none)).size = 1 := rfl
  obtain ⟨W2, hW2⟩ : ∃ W2, W2 = put W1 r (.cells (L1.take (n * 1) ++ zerosOf (.pointer none) 1 ++ L1.drop (n * 1 + (zerosOf (.pointer none) 1).length)).toArray 110) := ⟨_, rfl⟩
  have hcl : ∀ ty c, (Builtin.clear_ #[116] ty #[.slice (some ⟨r, n, none⟩) 1 c]).run Try.prog W1 = .ok (.tuple #[]) W2 := by
    intro ty c
    rw [show n = n * 1 from by omega]
    have := run_clear_many (P := Try.prog) W1 116 110 ty (.pointer none) Try.underlying116 (fun w => by simp [zeroValue, typeInfo, hi0, hz0]) (by decide) r (n * 1) 1 c (by omega) L1.toArray 110 hr1 (by simp [hL1l, hzc]; omega)
    rw [this, hW2]
  have hfin : Row W2 110 1 (.slice (some ⟨r, 0, none⟩) n cap) n (xs.take (i * 1) ++ M) := by
    refine ⟨by rw [List.length_append, List.length_take, hMl, hxl]; omega, .inr ⟨r, cap, _, rfl, Nat.zero_le _, by rw [hW2]; exact heap_put_at _ _ _ (lt_of_heap hr1), by omega, by unfold maxLen; omega, ?_, ?_⟩⟩
    · simp [zerosOf_len, hzc, hL1l]; omega
    · have hx : xs.take (i * 1) = cur.toList.take (i * 1) := by rw [← htk, List.take_take, Nat.min_eq_left (by omega)]
      rw [hx]
      exact del_cells L1 _ _ _ _ (by rw [List.length_append, List.length_take, hMl]; simp [hcs]; omega) _ hL1
  have hch : Chg (fun k => k = r) W W2 := by
    rw [hW2, hW1]
    exact (((Chg.refl (fun k => k = r) W).drew).put (fun _ => rfl) _).put (fun _ => rfl) _
  rw [← hM]
  have hcA : ∀ j u, M[j]? = some u → W.drew.cell? ((⟨r, i + 1, none⟩ : Addr).add j) = some u := news_at (W := W.drew) hr _ _ (by simpa using hMc)
  have H2 := hid hfin
  have H3 := hid hch
  have hne : ((i : Int) == (i : Int) + 1) = false := by rw [beq_eq_false_iff_ne]; omega
  have HN : n + 1 - n = 1 := by omega
  have hb6 : ¬ (cap = n) := by omega
  have hb7 : (n : Int) ≤ (n : Int) + 1 := by omega
  rcases Decidable.em (cap = i + 1) with hc | hc
  · obtain rfl : n = i := by omega
    have HA := hid (hap ⟨r, 0, none⟩ 0 (by intro j u hu; have := (List.getElem?_eq_some_iff.1 hu).1; rw [hMl] at this; omega))
    rw [Nat.sub_self] at HA
    subst hc
    clear hfin hch hcA hap hr1 hr hMc hM hM1 hL1 hL1l hW1 hW2 htk hcs h1 hi hxl hMl
    go_enter Try.func150, Try.ntmps150
    go_wp2
    have htn : ((n : Int) + 1).toNat = n + 1 := by omega
    have hb1 : (0 : Int) ≤ (n : Int) + 1 := by omega
    go_region_law (refine step_append_run (by rfl) _ _ _ (by rfl) _ _ (by simp [Act.eval, Act.put]) (by simp [Act.eval, Act.put]) _ _ HA.out ?_)
    clear htn hb1
    go_wp2_with (first | (refine wpList_clear_run (by rfl) _ _ (by rfl) _ (by rfl) _ _ (hcl _ _) ?_))
    go_ret
    exact ⟨rfl, H2.out, H3.out⟩
  · have HA := hid (hap ⟨r, i + 1, none⟩ (cap - (i + 1)) hcA)
    clear hfin hch hcA hap hr1 hr hMc hM hM1 hL1 hL1l hW1 hW2 htk hcs h1 hi hxl hMl
    go_enter Try.func150, Try.ntmps150
    go_wp2
    have htn : ((i : Int) + 1).toNat = i + 1 := by omega
    have hb1 : (0 : Int) ≤ (i : Int) + 1 := by omega
    have hb3 : (i : Int) + 1 ≤ (n : Int) + 1 := by omega
    have hb5 : (i : Int) ≤ (n : Int) + 1 := by omega
    have hb8 : i ≤ cap := by omega
    go_region_law (refine step_append_run (by rfl) _ _ _ (by rfl) _ _ (by simp [Act.eval, Act.put]) (by simp [Act.eval, Act.put]) _ _ HA.out ?_)
    clear htn hb1 hb3 hb5
    go_wp2_with (first | (refine wpList_clear_run (by rfl) _ _ (by rfl) _ (by rfl) _ _ (hcl _ _) ?_))
    go_ret
    exact ⟨rfl, H2.out, H3.out⟩
theorem append_row {P : Program} (W : World) (t ty e : TypeId) (i : TypeInfo) (z : Value) (size bytes : Nat) (ht : P.underlying t = some (.slice e)) (hi : P.info? e = some i) (hz : i.zero = some z)
    (hsize : i.size = size) (hby : i.bytes = bytes) (hzs : z.cells.size = size) (hsz : 0 < size) (v : Value) (n : Nat) (xs : List Value) (h : Row W e size v n xs) (sv : Value) (m : Nat) (news : List Value) (hs : Src W size sv m news)
    (h63 : n + m ≤ maxLen) (hbytes : (n + m) * bytes ≤ 140737488355328) :
    ∃ v' W', (Builtin.append_ #[t, t] ty #[v, sv]).run P W = .ok v' W' ∧ Row W' e size v' (n + m) (xs ++ news) ∧ Chg (fun k => blk v k ≠ 0) W W' ∧ (∀ k, k < W.heap.size → blk v' k ≤ blk v k) := by
  obtain ⟨hl, h1, hs⟩ := hs
  rcases hs with ⟨rfl, rfl⟩ | ⟨a, c, rfl, hc⟩
  · obtain rfl : news = [] := List.eq_nil_of_length_eq_zero (by omega)
    exact ⟨v, W, run_append_owned_none (P := P) W 0 t ty e i size ht hi v n xs h, by simpa using h, Chg.refl _ _, fun k _ => Nat.le_refl _⟩
  · obtain ⟨v', W', hrun, hown, hgrow, _, hw⟩ := run_append_own_at (P := P) W 0 t ty e i z size bytes ht hi hz hsize hby hzs hsz v n xs h a m c news hl hc h1 h63 hbytes (Nat.zero_le _)
    refine ⟨v', W', hrun, hown, (Chg.of_grown hgrow).mono fun k _ hk => by unfold blk; rw [if_pos hk]; omega, fun k hk => ?_⟩
    rcases hw with h | h
    · unfold blk; rw [h]; exact Nat.le_refl _
    · have : blk v' k = 0 := by unfold blk; rw [if_neg (by rw [h]; intro e; have := Option.some.inj e; omega)]
      omega
theorem Row.src {W : World} {e : TypeId} {size n : Nat} {v : Value} {xs : List Value} (h : Row W e size v n xs) (h1 : ∀ u ∈ xs, u.oneCell' = true) : Src W size v n xs := by
  refine ⟨h.1, h1, ?_⟩
  rcases h.2 with ⟨rfl, rfl⟩ | ⟨g, cap, cur, rfl, _⟩
  · exact .inl ⟨rfl, rfl⟩
  · exact .inr ⟨⟨g, 0, none⟩, cap, rfl, World.ownsRow.cells h rfl⟩
theorem Src.chg {W W' : World} {size m : Nat} {sv : Value} {news : List Value} (h : Src W size sv m news) (hh : ∀ a c, sv = .slice (some a) m c → 0 < m → W'.heap[a.block]? = W.heap[a.block]?) (hs : 0 < size) : Src W' size sv m news := by
  refine ⟨h.1, h.2.1, h.2.2.imp id ?_⟩
  rintro ⟨a, c, rfl, hc⟩
  refine ⟨a, c, rfl, fun j u hu => ?_⟩
  have hm : 0 < m := by
    rcases Nat.eq_zero_or_pos m with e | e
    · have h1 := h.1
      rw [e, Nat.zero_mul] at h1
      have := List.eq_nil_of_length_eq_zero h1
      rw [this] at hu; cases hu
    · exact e
  rw [World.cell?_of_block (w := W)]
  · exact hc j u hu
  · have : (a.add j).block = a.block := by unfold Addr.add; split <;> rfl
    rw [this]; exact hh a c rfl hm
set_option maxRecDepth 100000 in
set_option maxHeartbeats 4000000 in
theorem clone_item (W : World) (v : Value) (n : Nat) (xs : List Value) (hs : Src W 2 v n xs) (hn : n ≤ 1000) :
    Calls Try.prog 114 #[v] W fun en W' => ∃ cv, en = .returned cv ∧ Row W' 34 2 cv n xs ∧ Below W.heap.size W W' ∧ (∀ k, k < W.heap.size → blk cv k = 0) := by
  have q := fun (w : World) (a : Option Addr) (n c n' c' : Nat) => Lib.run_eql_slice_nil (P := Try.prog) w 28 _ a n c n' c' Try.underlying28
  rcases hs.2.2 with ⟨rfl, rfl⟩ | ⟨a, c, rfl, hc⟩
  · obtain rfl : xs = [] := List.eq_nil_of_length_eq_zero (by rw [hs.1, Nat.zero_mul])
    go_enter Try.func114, Try.ntmps114
    go_wp2
    go_ret
    exact ⟨_, rfl, World.ownsRow_nil _ _ _ _, Below.refl _ _, fun k _ => by simp⟩
  · obtain ⟨i0, hi0, hz0, hz1, hz2⟩ := info_parts item_info
    have hm := World.ownsRow_made W #[] 0 (base := 0) (e := 34) (size := 2) (Nat.zero_le _) (by unfold maxLen; omega) (by simp)
    obtain ⟨v', W1, hrun, hrow, hch, hold⟩ := append_row (P := Try.prog) (W.alloc (.cells #[] 34)) 28 28 34 i0 _ 2 _ Try.underlying28 hi0 hz0 hz1 hz2 rfl (by omega) _ 0 [] hm _ n xs (hs.heap ((Below.refl _ W).alloc (Nat.le_refl _) _)) (by unfold maxLen; omega) (by omega)
    have H1 := hid hrow
    have H2 := hid (show Below W.heap.size W W1 from ((Below.refl _ W).alloc (Nat.le_refl _) _).trans (hch.below (by simp) (fun k hk => by rw [blk_at _ _ _ _ _ none] at hk; exact Nat.le_of_eq (one_ne hk).symm)))
    have H3 := hid (show ∀ k, k < W.heap.size → blk v' k = 0 from fun k hk => by
      have := hold k (by simp; omega)
      rw [blk_at _ _ _ _ _ none] at this
      unfold one at this; rw [if_neg (by omega)] at this; omega)
    clear hrow hch hold hs hc hm
    go_enter Try.func114, Try.ntmps114
    go_wp2_with (first | (at_builtin; refine wpList_append_run (by rfl) _ _ _ (by rfl) _ _ (by rfl) (by rfl) _ _ hrun ?_))
    go_ret
    exact ⟨_, rfl, by simpa using H1.out, H2.out, H3.out⟩
set_option maxRecDepth 100000 in
set_option maxHeartbeats 4000000 in
theorem clone_ptr (W : World) (v : Value) (n : Nat) (xs : List Value) (hs : Src W 1 v n xs) (hn : n ≤ 1000) :
    Calls Try.prog 119 #[v] W fun en W' => ∃ cv, en = .returned cv ∧ Row W' 110 1 cv n xs ∧ Below W.heap.size W W' ∧ (∀ k, k < W.heap.size → blk cv k = 0) := by
  have q := fun (w : World) (a : Option Addr) (n c n' c' : Nat) => Lib.run_eql_slice_nil (P := Try.prog) w 116 _ a n c n' c' Try.underlying116
  rcases hs.2.2 with ⟨rfl, rfl⟩ | ⟨a, c, rfl, hc⟩
  · obtain rfl : xs = [] := List.eq_nil_of_length_eq_zero (by rw [hs.1, Nat.zero_mul])
    go_enter Try.func119, Try.ntmps119
    go_wp2
    go_ret
    exact ⟨_, rfl, World.ownsRow_nil _ _ _ _, Below.refl _ _, fun k _ => by simp⟩
  · obtain ⟨i0, hi0, hz0, hz1, hz2⟩ := info_parts ptr_info
    have hm := World.ownsRow_made W #[] 0 (base := 0) (e := 110) (size := 1) (Nat.zero_le _) (by unfold maxLen; omega) (by simp)
    obtain ⟨v', W1, hrun, hrow, hch, hold⟩ := append_row (P := Try.prog) (W.alloc (.cells #[] 110)) 116 116 110 i0 _ 1 _ Try.underlying116 hi0 hz0 hz1 hz2 rfl (by omega) _ 0 [] hm _ n xs (hs.heap ((Below.refl _ W).alloc (Nat.le_refl _) _)) (by unfold maxLen; omega) (by omega)
    have H1 := hid hrow
    have H2 := hid (show Below W.heap.size W W1 from ((Below.refl _ W).alloc (Nat.le_refl _) _).trans (hch.below (by simp) (fun k hk => by rw [blk_at _ _ _ _ _ none] at hk; exact Nat.le_of_eq (one_ne hk).symm)))
    have H3 := hid (show ∀ k, k < W.heap.size → blk v' k = 0 from fun k hk => by
      have := hold k (by simp; omega)
      rw [blk_at _ _ _ _ _ none] at this
      unfold one at this; rw [if_neg (by omega)] at this; omega)
    clear hrow hch hold hs hc hm
    go_enter Try.func119, Try.ntmps119
    go_wp2_with (first | (at_builtin; refine wpList_append_run (by rfl) _ _ _ (by rfl) _ _ (by rfl) (by rfl) _ _ hrun ?_))
    go_ret
    exact ⟨_, rfl, by simpa using H1.out, H2.out, H3.out⟩
end Go.Proofs.Ythknenhcnpgkcaa
