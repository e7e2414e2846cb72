import Derived.Test.YthknenhcnpgkcaaCnt
import Derived.Deep.RegionLaw
/- Contracts of package slices at items and at pointers to nodes: Insert. -/
namespace Go.Proofs.Ythknenhcnpgkcaa
set_option linter.unusedVariables false
set_option linter.unusedSimpArgs false
open Go.RowKit
theorem item_info : (Try.prog.info? 34).map (fun i => (i.zero, i.size, i.bytes)) = some (some (.agg #[.string ⟨#[]⟩, .string ⟨#[]⟩]), 2, 32) := by kernel_rfl
theorem ptr_info : (Try.prog.info? 110).map (fun i => (i.zero, i.size, i.bytes)) = some (some (.pointer none), 1, 8) := by kernel_rfl
theorem shape_of {W : World} {r : Nat} {cs : Array Value} {t : TypeId} {fr : Nat × Nat} (h : W.heap[r]? = some (.cells cs t fr)) : W.shape? r = some (t, cs.size) := by simp [World.shape?, h]
theorem frozen_of {W : World} {r : Nat} {cs : Array Value} {t : TypeId} (h : W.heap[r]? = some (.cells cs t (0, 0))) (i : Nat) : W.frozen? ⟨r, i, none⟩ = false := by simp [World.frozen?, h]
theorem add_none (b o j : Nat) : (⟨b, o, none⟩ : Addr).add j = ⟨b, o + j, none⟩ := by unfold Addr.add; split <;> simp_all
theorem news_at {W : World} {r : Nat} {cs : Array Value} {t : TypeId} {fr : Nat × Nat} (h : W.heap[r]? = some (.cells cs t fr)) (o : Nat) (l : List Value) (hl : ∀ j u, l[j]? = some u → cs.toList[o + j]? = some u) : ∀ j u, l[j]? = some u → W.cell? ((⟨r, o, none⟩ : Addr).add j) = some u := by
  intro j u hu
  have e : (⟨r, o, none⟩ : Addr).add j = ⟨r, o + j, none⟩ := by unfold Addr.add; split <;> simp_all
  rw [e]
  have := cell_of_row W r (o + j) cs t fr h
  rw [this]
  simpa using hl j u hu
/-- The cells behind a place, moved up by one element: what copy leaves. -/
theorem ins_cells (cur : List Value) (i n k : Nat) (news : List Value) (hi : i ≤ n) (hk : news.length = k) (hc : n + k ≤ cur.length) :
    (((cur.take (i + k) ++ (cur.drop i).take (n - i) ++ cur.drop (i + k + ((cur.drop i).take (n - i)).length)).take i ++ news ++
      (cur.take (i + k) ++ (cur.drop i).take (n - i) ++ cur.drop (i + k + ((cur.drop i).take (n - i)).length)).drop (i + news.length))).take (n + k) = (cur.take n).take i ++ news ++ (cur.take n).drop i := by
  generalize hM : (cur.drop i).take (n - i) = M
  have hl : M.length = n - i := by rw [← hM, List.length_take, List.length_drop]; omega
  generalize hD : cur.drop (i + k + M.length) = D
  have e1 : (cur.take (i + k) ++ M ++ D).take i = cur.take i := by
    rw [List.append_assoc, List.take_append_of_le_length (by simp; omega), List.take_take, show min i (i + k) = i from by omega]
  have e2 : (cur.take (i + k) ++ M ++ D).drop (i + news.length) = M ++ D := by
    rw [List.append_assoc]
    exact List.drop_left' (by simp; omega)
  rw [e1, e2, ← List.append_assoc, List.take_left' (by simp; omega), List.take_take, show min i n = i from by omega, List.drop_take, hM]
theorem ins_new (xs zs news : List Value) (i n k : Nat) (hx : xs.length = n) (hi : i ≤ n) (hk : news.length = k) (hz : n + k ≤ i + zs.length) :
    ((((xs.take i ++ zs).take i ++ news ++ (xs.take i ++ zs).drop (i + news.length)).take (i + k) ++ xs.drop i ++ ((xs.take i ++ zs).take i ++ news ++ (xs.take i ++ zs).drop (i + news.length)).drop (i + k + (xs.drop i).length))).take (n + k) = xs.take i ++ news ++ xs.drop i := by
  have h1 : (xs.take i ++ zs).take i = xs.take i := by rw [List.take_append_of_le_length (by simp; omega), List.take_take, Nat.min_self]
  rw [h1]
  have h2 : (xs.take i ++ news ++ (xs.take i ++ zs).drop (i + news.length)).take (i + k) = xs.take i ++ news := by
    rw [List.take_append_of_le_length (by simp; omega), List.take_of_length_le (by simp; omega)]
  rw [h2, List.take_append_of_le_length (by simp; omega), List.take_of_length_le (by simp; omega)]
set_option maxRecDepth 100000 in
set_option maxHeartbeats 4000000 in
theorem insert_item_room (W : World) (r cap n : Nat) (xs : List Value) (hi : Row W 34 2 (.slice (some ⟨r, 0, none⟩) n cap) n xs) (hn : n ≤ 1000) (h1 : ∀ u ∈ xs, u.oneCell' = true) (i : Nat) (hin : i < n) (hroom : n + 1 ≤ cap)
    (a : Nat) (news : List Value) (hnl : news.length = 2) (hn1 : ∀ u ∈ news, u.oneCell' = true) (ha : W.heap[a]? = some (.cells news.toArray 34)) (hne : a ≠ r) :
    Calls Try.prog 117 #[.slice (some ⟨r, 0, none⟩) n cap, .int .i64 i, .slice (some ⟨a, 0, none⟩) 1 1] W fun en W' => ∃ v', en = .returned v' ∧ Row W' 34 2 v' (n + 1) (xs.take (i * 2) ++ news ++ xs.drop (i * 2)) ∧ Chg (fun k => k = r) W W' ∧ (∀ k, k < W.heap.size → blk v' k ≤ one r k) := by
  obtain ⟨i0, hi0, hz0, hz1, hz2⟩ := info_parts item_info
  obtain ⟨cur, hcap, hr, hcs, htk⟩ : ∃ cur : Array Value, cap ≤ maxLen ∧ W.heap[r]? = some (.cells cur 34) ∧ cur.size = cap * 2 ∧ cur.toList.take (n * 2) = xs := by
    rcases hi.2 with ⟨h, _⟩ | ⟨g, c, cur, hv, _, hh, _, hm, hc, ht⟩
    · cases h
    · injection hv with h2 _ h3
      injection h2 with h2
      obtain rfl : r = g := congrArg Addr.block h2
      subst h3
      exact ⟨cur, hm, hh, hc, ht⟩
  unfold maxLen at hcap
  have hsz : (Try.prog.info? 34).map (·.size) = some 2 := by rw [hi0]; simp [hz1]
  have hxl := hi.1
  have hov : ∀ lb cb, (callFunc 138 #[.slice (some ⟨a, 0, none⟩) 1 1, .slice (some ⟨r, (i + 1) * 2, none⟩) lb cb]).run Try.prog W = .ok (.value (.bool false)) W := fun lb cb => by
    rw [run_callFunc_extern Try.func138 (by kernel_rfl) (by kernel_rfl) (by kernel_rfl) (e := Extern.SlicesOverlaps.overlaps #[28, 28] #[4]) (by kernel_rfl),
      Lib.run_overlaps_apart W 28 4 34 Try.underlying28 2 (fun w => by simp [sizeOf, typeInfo, hi0, hz1]) ⟨a, 0, none⟩ ⟨r, (i + 1) * 2, none⟩ 1 1 lb cb hne _ _ _ _ (shape_of ha) (shape_of hr) (by rw [hcs]; omega) (frozen_of ha _) (frozen_of ha _)]
    rfl
  have hd1 : ∀ j u, ((cur.toList.drop (i * 2)).take ((n - i) * 2))[j]? = some u → cur.toList[i * 2 + j]? = some u := by
    intro j u hu
    rw [List.getElem?_take] at hu
    split at hu
    · rw [List.getElem?_drop] at hu; exact hu
    · cases hu
  have hl1 : ((cur.toList.drop (i * 2)).take ((n - i) * 2)).length = (n - i) * 2 := by rw [List.length_take, List.length_drop]; simp only [Array.length_toList, hcs]; omega
  have ho1 : ∀ u ∈ ((cur.toList.drop (i * 2)).take ((n - i) * 2)), u.oneCell' = true := by
    intro u hu
    refine h1 u ?_
    rw [← htk]
    obtain ⟨j, hj⟩ := List.mem_iff_getElem?.1 hu
    have hjl := (List.getElem?_eq_some_iff.1 hj).1
    have := hd1 j u hj
    refine List.mem_iff_getElem?.2 ⟨i * 2 + j, ?_⟩
    rw [List.getElem?_take, if_pos (by omega)]
    exact this
  obtain ⟨W1, hW1⟩ : ∃ W1, W1 = put W.drew r (.cells (cur.toList.take (i * 2 + 2) ++ ((cur.toList.drop (i * 2)).take ((n - i) * 2)) ++ cur.toList.drop (i * 2 + 2 + ((cur.toList.drop (i * 2)).take ((n - i) * 2)).length)).toArray 34) := ⟨_, rfl⟩
  have hcp1 : ∀ ty dl dc sl sc, Nat.min sl dl = n - i → (Builtin.copy_ #[28, 28] ty #[.slice (some ⟨r, (i + 1) * 2, none⟩) dl dc, .slice (some ⟨r, i * 2, none⟩) sl sc]).run Try.prog W.drew = .ok (goInt (Nat.min sl dl)) W1 := fun ty dl dc sl sc hm => by
    have := run_copy_many (P := Try.prog) W.drew 28 28 ty 34 2 r ((i + 1) * 2) dl dc ⟨r, i * 2, none⟩ sl sc cur 34 ((cur.toList.drop (i * 2)).take ((n - i) * 2)) Try.underlying28 hsz hr (by rw [hl1, hm]) (news_at (W := W.drew) hr _ _ (by simpa using hd1)) (by rw [hl1, hcs]; omega) ho1
    rw [this, hW1]
    congr 3
    first | rfl | (congr 1; first | rfl | omega) | simp [Nat.add_mul]
  have hr1 : W1.heap[r]? = some (.cells (cur.toList.take (i * 2 + 2) ++ ((cur.toList.drop (i * 2)).take ((n - i) * 2)) ++ cur.toList.drop (i * 2 + 2 + ((cur.toList.drop (i * 2)).take ((n - i) * 2)).length)).toArray 34) := by rw [hW1]; exact heap_put_at _ _ _ (lt_of_heap hr)
  have ha1 : W1.heap[a]? = some (.cells news.toArray 34) := by rw [hW1, heap_put_other _ _ _ _ hne]; exact ha
  obtain ⟨W2, hW2⟩ : ∃ W2, W2 = put W1 r (.cells ((cur.toList.take (i * 2 + 2) ++ ((cur.toList.drop (i * 2)).take ((n - i) * 2)) ++ cur.toList.drop (i * 2 + 2 + ((cur.toList.drop (i * 2)).take ((n - i) * 2)).length)).take (i * 2) ++ news ++ (cur.toList.take (i * 2 + 2) ++ ((cur.toList.drop (i * 2)).take ((n - i) * 2)) ++ cur.toList.drop (i * 2 + 2 + ((cur.toList.drop (i * 2)).take ((n - i) * 2)).length)).drop (i * 2 + news.length)).toArray 34) := ⟨_, rfl⟩
  have hcp2 : ∀ ty dl dc, 1 ≤ dl → (Builtin.copy_ #[28, 28] ty #[.slice (some ⟨r, i * 2, none⟩) dl dc, .slice (some ⟨a, 0, none⟩) 1 1]).run Try.prog W1 = .ok (goInt (Nat.min 1 dl)) W2 := fun ty dl dc hm => by
    have := run_copy_many (P := Try.prog) W1 28 28 ty 34 2 r (i * 2) dl dc ⟨a, 0, none⟩ 1 1 _ 34 news Try.underlying28 hsz hr1 (by rw [hnl, show Nat.min 1 dl = 1 from Nat.min_eq_left hm]) (news_at (W := W1) ha1 _ _ (by simp)) (by simp [hl1, hcs]; omega) hn1
    rw [this, hW2]
    try simp
  have hfin : Row W2 34 2 (.slice (some ⟨r, 0, none⟩) (n + 1) cap) (n + 1) (xs.take (i * 2) ++ news ++ xs.drop (i * 2)) := by
    refine ⟨by simp [hxl, hnl]; omega, .inr ⟨r, cap, _, rfl, Nat.zero_le _, by rw [hW2]; exact heap_put_at _ _ _ (by rw [hW1, size_put]; exact lt_of_heap hr), hroom, by unfold maxLen; omega, by simp [hl1, hcs, hnl]; omega, ?_⟩⟩
    have := ins_cells cur.toList (i * 2) (n * 2) 2 news (by omega) hnl (by simp [hcs]; omega)
    rw [htk] at this
    rw [← this]
    have e : n * 2 - i * 2 = (n - i) * 2 := by rw [Nat.sub_mul]
    simp only [e, Nat.add_mul, Nat.one_mul]
  have hch : Chg (fun k => k = r) W W2 := by
    rw [hW2, hW1]
    exact (((Chg.refl (fun k => k = r) W).drew).put (fun _ => rfl) _).put (fun _ => rfl) _
  clear hd1 ho1 hr1 ha1 hW1 hW2 hl1 htk hcs hxl hr ha hi h1
  have H2 := hid hfin
  have H3 := hid hch
  clear hfin hch
  go_enter Try.func117, Try.ntmps117
  go_wp2_with (simp only [hov])
  have HM := hid (show Nat.min (n + 1 - i) (n - i) = n - i by simp only [Nat.min_def]; split <;> omega)
  have HM2 : 1 ≤ n + 1 - i := by omega
  have hw1 : IntKind.i64.wrap ((i : Int) + 1) = (i : Int) + 1 := by rw [IntKind.wrap_i64]; omega
  have hb1 : (0 : Int) ≤ (i : Int) + 1 := by omega
  have htn : ((i : Int) + 1).toNat = i + 1 := by omega
  have hb2 : ¬ (cap = i + 1) := by omega
  have hb3 : (i : Int) + 1 ≤ (n : Int) + 1 := by omega
  have hb4 : ¬ (cap = i) := by omega
  have hb5 : (i : Int) ≤ (n : Int) + 1 := by omega
  go_region_law (refine step_copy_run (by rfl) _ _ _ (by rfl) _ _ (by simp [Act.eval, Act.put]) (by simp [Act.eval, Act.put]) _ _ (hcp1 _ (n - i) (cap - (i + 1)) (n + 1 - i) (cap - i) HM.out) ?_)
  clear hw1 hb1 htn hb2 hb3
  go_wp2_with (first | (with_reducible refine wpList_copy_run (by rfl) _ _ _ (by rfl) _ _ (by rfl) (by rfl) _ _ (hcp2 _ _ _ HM2) ?_))
  go_ret
  exact ⟨_, rfl, H2.out, H3.out, fun k _ => Nat.le_of_eq (blk_at _ _ _ _ _ none)⟩
set_option maxRecDepth 100000 in
set_option maxHeartbeats 4000000 in
theorem insert_item_end (W : World) (v : Value) (n : Nat) (xs : List Value) (hi : Row W 34 2 v n xs) (hn : n ≤ 1000)
    (a : Nat) (news : List Value) (hnl : news.length = 2) (hn1 : ∀ u ∈ news, u.oneCell' = true) (ha : W.heap[a]? = some (.cells news.toArray 34)) :
    Calls Try.prog 117 #[v, .int .i64 n, .slice (some ⟨a, 0, none⟩) 1 1] W fun en W' => ∃ v', en = .returned v' ∧ Row W' 34 2 v' (n + 1) (xs ++ news) ∧ Chg (fun k => blk v k ≠ 0) W W' ∧ (∀ k, k < W.heap.size → blk v' k ≤ blk v k) := by
  obtain ⟨i0, hi0, hz0, hz1, hz2⟩ := info_parts item_info
  obtain ⟨v', W1, hrun, hown, hgrow, _, hwhere⟩ := run_append_own_at (P := Try.prog) W 0 28 28 34 i0 _ 2 _ Try.underlying28 hi0 hz0 hz1 hz2 rfl (by omega) v n xs hi ⟨a, 0, none⟩ 1 1 news (by rw [hnl]) (news_at ha 0 news (by simp)) hn1 (by unfold maxLen; omega) (by omega) (Nat.zero_le _)
  obtain ⟨ao, c, rfl⟩ := owns_slice hi
  have hcl : n ≤ c ∧ c ≤ maxLen := by
    rcases hi.2 with ⟨h, h2⟩ | ⟨g, c', cur, hv, _, hh, hnc, hm, hc, ht⟩
    · injection h with _ _ h3; subst h3; unfold maxLen; omega
    · injection hv with _ _ h3; subst h3; exact ⟨hnc, hm⟩
  obtain ⟨hc1, hc2⟩ := hcl
  unfold maxLen at hc2
  have H2 := hid hown
  have H3 := hid (show Chg (fun k => blk (.slice ao n c) k ≠ 0) W W1 from (Chg.of_grown hgrow).mono fun k _ hk => by unfold blk; rw [if_pos hk]; omega)
  have H4 := hid (show ∀ k, k < W.heap.size → blk v' k ≤ blk (.slice ao n c) k from fun k hk => by
    rcases hwhere with h | h
    · unfold blk; rw [h]; exact Nat.le_refl _
    · have : blk v' k = 0 := by unfold blk; rw [if_neg (by rw [h]; intro e; have := Option.some.inj e; omega)]
      omega)
  have hbn : ((n : Int) == (n : Int)) = true := by simp
  clear hown hgrow hwhere hi ha hn1
  rcases Decidable.em (c = n) with rfl | hcn
  all_goals
    go_enter Try.func117, Try.ntmps117
    go_wp2_with (first | (at_builtin; refine wpList_append_run (by rfl) _ _ _ (by rfl) _ _ (by rfl) (by rfl) _ _ hrun ?_))
    go_ret
    exact ⟨_, rfl, H2.out, H3.out, H4.out⟩
set_option maxRecDepth 100000 in
set_option maxHeartbeats 4000000 in
theorem insert_item_grow (W : World) (r cap n : Nat) (xs : List Value) (hi : Row W 34 2 (.slice (some ⟨r, 0, none⟩) n cap) n xs) (hn : n ≤ 1000) (h1 : ∀ u ∈ xs, u.oneCell' = true) (i : Nat) (hin : i < n) (hroom : cap < n + 1)
    (a : Nat) (news : List Value) (hnl : news.length = 2) (hn1 : ∀ u ∈ news, u.oneCell' = true) (ha : W.heap[a]? = some (.cells news.toArray 34)) :
    Calls Try.prog 117 #[.slice (some ⟨r, 0, none⟩) n cap, .int .i64 i, .slice (some ⟨a, 0, none⟩) 1 1] W fun en W' => ∃ v', en = .returned v' ∧ Row W' 34 2 v' (n + 1) (xs.take (i * 2) ++ news ++ xs.drop (i * 2)) ∧ Chg (fun k => k = r) W W' ∧ (∀ k, k < W.heap.size → blk v' k ≤ one r k) := by
  obtain ⟨i0, hi0, hz0, hz1, hz2⟩ := info_parts item_info
  have hnc : n ≤ cap := by
    rcases hi.2 with ⟨h, _⟩ | ⟨g, c, cur, hv, _, hh, hnc, hm, hc, ht⟩
    · cases h
    · injection hv with h2 _ h3; omega
  have hsz : (Try.prog.info? 34).map (·.size) = some 2 := by rw [hi0]; simp [hz1]
  have hxl := hi.1
  have hcx := hi.cells (g := r) rfl
  have ht1 : ∀ j u, (xs.take (i * 2))[j]? = some u → W.cell? ((⟨r, 0, none⟩ : Addr).add j) = some u := fun j u hu => by
    rw [List.getElem?_take] at hu
    split at hu
    · exact hcx j u hu
    · cases hu
  obtain ⟨cap', hc1, hc2, hrun1⟩ := run_append_zeros_grows (P := Try.prog) W 28 3 28 34 i0 _ .i64 .i64 2 _ Try.underlying28 Try.underlying3 hi0 hz0 hz1 hz2 ⟨r, 0, none⟩ i cap (n + 1 - i) (xs.take (i * 2)) (by rw [List.length_take, hxl]; omega) ht1 (by omega) (by omega) (by omega) (by omega) (by omega)
  rw [show ((n + 1 - i : Nat) : Int) = (n : Int) + 1 - (i : Int) from by omega, show i + (n + 1 - i) = n + 1 from by omega] at hrun1
  rw [show i + (n + 1 - i) = n + 1 from by omega] at hc1
  unfold maxLen at hc2
  obtain ⟨Z, hZ⟩ : ∃ Z : List Value, Z = zerosOf (.agg #[.string ⟨#[]⟩, .string ⟨#[]⟩]) (n + 1 - i) ++ zerosOf (.agg #[.string ⟨#[]⟩, .string ⟨#[]⟩]) (cap' - (n + 1)) := ⟨_, rfl⟩
  have hZl : Z.length = (cap' - i) * 2 := by rw [hZ, List.length_append, zerosOf_len, zerosOf_len, show (Value.cells (.agg #[.string ⟨#[]⟩, .string ⟨#[]⟩])).size = 2 from rfl, ← Nat.add_mul]; congr 1; omega
  rw [List.append_assoc, ← hZ] at hrun1
  obtain ⟨W1, hW1⟩ : ∃ W1, W1 = W.drew.alloc (.cells (xs.take (i * 2) ++ Z).toArray 34) := ⟨_, rfl⟩
  rw [← hW1] at hrun1
  have hg1 : W1.heap[W.heap.size]? = some (.cells (xs.take (i * 2) ++ Z).toArray 34) := by rw [hW1]; exact heap_alloc_at _ _ _ rfl
  have hal := lt_of_heap ha
  have hrl := (World.ownsRow.lt hi r rfl).2
  have ha1 : W1.heap[a]? = some (.cells news.toArray 34) := by rw [hW1, heap_alloc_other _ _ _ (by exact hal)]; exact ha
  have hmin1 : Nat.min 1 (n + 1 - i) = 1 := Nat.min_eq_left (by omega)
  obtain ⟨W2, hW2⟩ : ∃ W2, W2 = put W1 W.heap.size (.cells ((xs.take (i * 2) ++ Z).take (i * 2) ++ news ++ (xs.take (i * 2) ++ Z).drop (i * 2 + news.length)).toArray 34) := ⟨_, rfl⟩
  have hcp1 : ∀ ty dl dc, 1 ≤ dl → (Builtin.copy_ #[28, 28] ty #[.slice (some ⟨W.heap.size, i * 2, none⟩) dl dc, .slice (some ⟨a, 0, none⟩) 1 1]).run Try.prog W1 = .ok (goInt (Nat.min 1 dl)) W2 := fun ty dl dc hm => by
    have := run_copy_many (P := Try.prog) W1 28 28 ty 34 2 W.heap.size (i * 2) dl dc ⟨a, 0, none⟩ 1 1 _ 34 news Try.underlying28 hsz hg1 (by rw [hnl, show Nat.min 1 dl = 1 from Nat.min_eq_left hm]) (news_at (W := W1) ha1 _ _ (by simp)) (by simp [hZl, hxl, hnl]; omega) hn1
    rw [this, hW2]
    try simp
  have hg2 : W2.heap[W.heap.size]? = some (.cells ((xs.take (i * 2) ++ Z).take (i * 2) ++ news ++ (xs.take (i * 2) ++ Z).drop (i * 2 + news.length)).toArray 34) := by rw [hW2]; exact heap_put_at _ _ _ (lt_of_heap hg1)
  have hr2 : ∀ j u, xs[j]? = some u → W2.cell? ((⟨r, 0, none⟩ : Addr).add j) = some u := fun j u hu => by
    have e : W2.heap[r]? = W.heap[r]? := by rw [hW2, heap_put_other _ _ _ _ (by omega), hW1, heap_alloc_other _ _ _ (by exact hrl)]; rfl
    rw [World.cell?_of_block (w := W)]
    · exact hcx j u hu
    · have : ((⟨r, 0, none⟩ : Addr).add j).block = r := by unfold Addr.add; split <;> rfl
      rw [this]; exact e
  have hd2 : ∀ j u, (xs.drop (i * 2))[j]? = some u → W2.drew.cell? ((⟨r, i * 2, none⟩ : Addr).add j) = some u := fun j u hu => by
    rw [List.getElem?_drop] at hu
    have := hr2 _ u hu
    have e : (⟨r, i * 2, none⟩ : Addr).add j = (⟨r, 0, none⟩ : Addr).add (i * 2 + j) := by rw [add_none, add_none, Nat.zero_add]; try (rw [Nat.mul_one])
    rw [e]; exact this
  have hdl : (xs.drop (i * 2)).length = (n - i) * 2 := by rw [List.length_drop, hxl]; omega
  obtain ⟨W3, hW3⟩ : ∃ W3, W3 = put W2.drew W.heap.size (.cells (((xs.take (i * 2) ++ Z).take (i * 2) ++ news ++ (xs.take (i * 2) ++ Z).drop (i * 2 + news.length)).take (i * 2 + 2) ++ xs.drop (i * 2) ++ ((xs.take (i * 2) ++ Z).take (i * 2) ++ news ++ (xs.take (i * 2) ++ Z).drop (i * 2 + news.length)).drop (i * 2 + 2 + (xs.drop (i * 2)).length)).toArray 34) := ⟨_, rfl⟩
  have hcp2 : ∀ ty dl dc sl sc, Nat.min sl dl = n - i → (Builtin.copy_ #[28, 28] ty #[.slice (some ⟨W.heap.size, (i + 1) * 2, none⟩) dl dc, .slice (some ⟨r, i * 2, none⟩) sl sc]).run Try.prog W2.drew = .ok (goInt (Nat.min sl dl)) W3 := fun ty dl dc sl sc hm => by
    have := run_copy_many (P := Try.prog) W2.drew 28 28 ty 34 2 W.heap.size ((i + 1) * 2) dl dc ⟨r, i * 2, none⟩ sl sc _ 34 (xs.drop (i * 2)) Try.underlying28 hsz (by exact hg2) (by rw [hdl, hm]) hd2 (by rw [hdl]; simp [hZl, hxl, hnl]; omega) (fun u hu => h1 u (List.mem_of_mem_drop hu))
    rw [this, hW3]
    congr 3
    first | rfl | (congr 1; first | rfl | omega) | simp [Nat.add_mul]
  have hfin : Row W3 34 2 (.slice (some ⟨W.heap.size, 0, none⟩) (n + 1) cap') (n + 1) (xs.take (i * 2) ++ news ++ xs.drop (i * 2)) := by
    refine ⟨by simp [hxl, hnl]; omega, .inr ⟨W.heap.size, cap', _, rfl, Nat.zero_le _, by rw [hW3]; exact heap_put_at _ _ _ (lt_of_heap hg2), hc1, by unfold maxLen; omega, by simp [hZl, hxl, hnl]; omega, ?_⟩⟩
    have := ins_new xs Z news (i * 2) (n * 2) 2 hxl (by omega) hnl (by rw [hZl]; omega)
    rw [← this]
    simp only [Nat.add_mul, Nat.one_mul]
  have hch : Chg (fun k => k = r) W W3 := by
    have c1 : Chg (fun k => k = r) W W1 := by rw [hW1]; exact ((Chg.refl (fun k => k = r) W).drew).alloc _
    have c2 : Chg (fun k => k = r) W W2 := by rw [hW2]; exact c1.put (fun h => by omega) _
    rw [hW3]
    exact c2.drew.put (fun h => by omega) _
  have H4 := hid (show ∀ k, k < W.heap.size → blk (.slice (some ⟨W.heap.size, 0, none⟩) (n + 1) cap') k ≤ one r k from fun k hk => by rw [blk_at _ _ _ _ _ none]; unfold one; rw [if_neg (by omega)]; omega)
  have H2 := hid hfin
  have H3 := hid hch
  have hzl : W.heap.size = W.heap.size := rfl
  generalize W.heap.size = G at *
  clear hfin hch hd2 hr2 hg2 hg1 ha1 hW1 hW2 hW3 hZ hZl hcx ht1 hi ha h1 hn1 hzl hxl hdl
  have HM := hid (show Nat.min (n - i) (n - i) = n - i from Nat.min_self _)
  have HM2 : 1 ≤ n + 1 - i := by omega
  go_enter Try.func117, Try.ntmps117
  go_wp2_with (first | (at_builtin; refine wpList_append2_run (by rfl) _ _ _ _ (by rfl) _ _ (by rfl) (by rfl) _ _ hrun1 ?_) | (with_reducible refine wpList_copy_run (by rfl) _ _ _ (by rfl) _ _ (by rfl) (by rfl) _ _ (hcp1 _ _ _ HM2) ?_))
  have hw1 : IntKind.i64.wrap ((i : Int) + 1) = (i : Int) + 1 := by rw [IntKind.wrap_i64]; omega
  have hb1 : (0 : Int) ≤ (i : Int) + 1 := by omega
  have htn : ((i : Int) + 1).toNat = i + 1 := by omega
  have hb2 : ¬ (cap' = i + 1) := by omega
  have hb3 : (i : Int) + 1 ≤ (n : Int) + 1 := by omega
  have hb4 : ¬ (cap = i) := by omega
  have hb5 : (i : Int) ≤ (n : Int) := by omega
  go_region_law (refine step_copy_run (by rfl) _ _ _ (by rfl) _ _ (by simp [Act.eval, Act.put]) (by simp [Act.eval, Act.put]) _ _ (hcp2 _ (n - i) (cap' - (i + 1)) (n - i) (cap - i) HM.out) ?_)
  clear hw1 hb1 htn hb2 hb3
  go_wp2
  go_ret
  exact ⟨_, rfl, H2.out, H3.out, H4.out⟩
set_option maxRecDepth 100000 in
set_option maxHeartbeats 4000000 in
theorem insert_ptr_room (W : World) (r cap n : Nat) (xs : List Value) (hi : Row W 110 1 (.slice (some ⟨r, 0, none⟩) n cap) n xs) (hn : n ≤ 1000) (h1 : ∀ u ∈ xs, u.oneCell' = true) (i : Nat) (hin : i < n) (hroom : n + 1 ≤ cap)
    (a : Nat) (news : List Value) (hnl : news.length = 1) (hn1 : ∀ u ∈ news, u.oneCell' = true) (ha : W.heap[a]? = some (.cells news.toArray 110)) (hne : a ≠ r) :
    Calls Try.prog 118 #[.slice (some ⟨r, 0, none⟩) n cap, .int .i64 i, .slice (some ⟨a, 0, none⟩) 1 1] W fun en W' => ∃ v', en = .returned v' ∧ Row W' 110 1 v' (n + 1) (xs.take (i * 1) ++ news ++ xs.drop (i * 1)) ∧ Chg (fun k => k = r) W W' ∧ (∀ k, k < W.heap.size → blk v' k ≤ one r k) := by
  obtain ⟨i0, hi0, hz0, hz1, hz2⟩ := info_parts ptr_info
  obtain ⟨cur, hcap, hr, hcs, htk⟩ : ∃ cur : Array Value, cap ≤ maxLen ∧ W.heap[r]? = some (.cells cur 110) ∧ cur.size = cap * 1 ∧ cur.toList.take (n * 1) = xs := by
    rcases hi.2 with ⟨h, _⟩ | ⟨g, c, cur, hv, _, hh, _, hm, hc, ht⟩
    · cases h
    · injection hv with h2 _ h3
      injection h2 with h2
      obtain rfl : r = g := congrArg Addr.block h2
      subst h3
      exact ⟨cur, hm, hh, hc, ht⟩
  unfold maxLen at hcap
  have hsz : (Try.prog.info? 110).map (·.size) = some 1 := by rw [hi0]; simp [hz1]
  have hxl := hi.1
  have hov : ∀ lb cb, (callFunc 140 #[.slice (some ⟨a, 0, none⟩) 1 1, .slice (some ⟨r, i + 1, none⟩) lb cb]).run Try.prog W = .ok (.value (.bool false)) W := fun lb cb => by
    rw [run_callFunc_extern Try.func140 (by kernel_rfl) (by kernel_rfl) (by kernel_rfl) (e := Extern.SlicesOverlaps.overlaps #[116, 116] #[4]) (by kernel_rfl),
      Lib.run_overlaps_apart W 116 4 110 Try.underlying116 1 (fun w => by simp [sizeOf, typeInfo, hi0, hz1]) ⟨a, 0, none⟩ ⟨r, i + 1, none⟩ 1 1 lb cb hne _ _ _ _ (shape_of ha) (shape_of hr) (by rw [hcs]; omega) (frozen_of ha _) (frozen_of ha _)]
    rfl
  have hd1 : ∀ j u, ((cur.toList.drop (i * 1)).take ((n - i) * 1))[j]? = some u → cur.toList[i * 1 + j]? = some u := by
    intro j u hu
    rw [List.getElem?_take] at hu
    split at hu
    · rw [List.getElem?_drop] at hu; exact hu
    · cases hu
  have hl1 : ((cur.toList.drop (i * 1)).take ((n - i) * 1)).length = (n - i) * 1 := by rw [List.length_take, List.length_drop]; simp only [Array.length_toList, hcs]; omega
  have ho1 : ∀ u ∈ ((cur.toList.drop (i * 1)).take ((n - i) * 1)), u.oneCell' = true := by
    intro u hu
    refine h1 u ?_
    rw [← htk]
    obtain ⟨j, hj⟩ := List.mem_iff_getElem?.1 hu
    have hjl := (List.getElem?_eq_some_iff.1 hj).1
    have := hd1 j u hj
    refine List.mem_iff_getElem?.2 ⟨i * 1 + j, ?_⟩
    rw [List.getElem?_take, if_pos (by omega)]
    exact this
  obtain ⟨W1, hW1⟩ : ∃ W1, W1 = put W.drew r (.cells (cur.toList.take (i * 1 + 1) ++ ((cur.toList.drop (i * 1)).take ((n - i) * 1)) ++ cur.toList.drop (i * 1 + 1 + ((cur.toList.drop (i * 1)).take ((n - i) * 1)).length)).toArray 110) := ⟨_, rfl⟩
  have hcp1 : ∀ ty dl dc sl sc, Nat.min sl dl = n - i → (Builtin.copy_ #[116, 116] ty #[.slice (some ⟨r, i + 1, none⟩) dl dc, .slice (some ⟨r, i, none⟩) sl sc]).run Try.prog W.drew = .ok (goInt (Nat.min sl dl)) W1 := fun ty dl dc sl sc hm => by
    have := run_copy_many (P := Try.prog) W.drew 116 116 ty 110 1 r (i + 1) dl dc ⟨r, i, none⟩ sl sc cur 110 ((cur.toList.drop (i * 1)).take ((n - i) * 1)) Try.underlying116 hsz hr (by rw [hl1, hm]) (news_at (W := W.drew) hr _ _ (by simpa using hd1)) (by rw [hl1, hcs]; omega) ho1
    rw [this, hW1]
    congr 3
    first | rfl | (congr 1; first | rfl | omega) | simp [Nat.add_mul]
  have hr1 : W1.heap[r]? = some (.cells (cur.toList.take (i * 1 + 1) ++ ((cur.toList.drop (i * 1)).take ((n - i) * 1)) ++ cur.toList.drop (i * 1 + 1 + ((cur.toList.drop (i * 1)).take ((n - i) * 1)).length)).toArray 110) := by rw [hW1]; exact heap_put_at _ _ _ (lt_of_heap hr)
  have ha1 : W1.heap[a]? = some (.cells news.toArray 110) := by rw [hW1, heap_put_other _ _ _ _ hne]; exact ha
  obtain ⟨W2, hW2⟩ : ∃ W2, W2 = put W1 r (.cells ((cur.toList.take (i * 1 + 1) ++ ((cur.toList.drop (i * 1)).take ((n - i) * 1)) ++ cur.toList.drop (i * 1 + 1 + ((cur.toList.drop (i * 1)).take ((n - i) * 1)).length)).take (i * 1) ++ news ++ (cur.toList.take (i * 1 + 1) ++ ((cur.toList.drop (i * 1)).take ((n - i) * 1)) ++ cur.toList.drop (i * 1 + 1 + ((cur.toList.drop (i * 1)).take ((n - i) * 1)).length)).drop (i * 1 + news.length)).toArray 110) := ⟨_, rfl⟩
  have hcp2 : ∀ ty dl dc, 1 ≤ dl → (Builtin.copy_ #[116, 116] ty #[.slice (some ⟨r, i, none⟩) dl dc, .slice (some ⟨a, 0, none⟩) 1 1]).run Try.prog W1 = .ok (goInt (Nat.min 1 dl)) W2 := fun ty dl dc hm => by
    have := run_copy_many (P := Try.prog) W1 116 116 ty 110 1 r (i) dl dc ⟨a, 0, none⟩ 1 1 _ 110 news Try.underlying116 hsz hr1 (by rw [hnl, show Nat.min 1 dl = 1 from Nat.min_eq_left hm]) (news_at (W := W1) ha1 _ _ (by simp)) (by simp [hl1, hcs]; omega) hn1
    rw [this, hW2]
    try simp
  have hfin : Row W2 110 1 (.slice (some ⟨r, 0, none⟩) (n + 1) cap) (n + 1) (xs.take (i * 1) ++ news ++ xs.drop (i * 1)) := by
    refine ⟨by simp [hxl, hnl]; omega, .inr ⟨r, cap, _, rfl, Nat.zero_le _, by rw [hW2]; exact heap_put_at _ _ _ (by rw [hW1, size_put]; exact lt_of_heap hr), hroom, by unfold maxLen; omega, by simp [hl1, hcs, hnl]; omega, ?_⟩⟩
    have := ins_cells cur.toList (i * 1) (n * 1) 1 news (by omega) hnl (by simp [hcs]; omega)
    rw [htk] at this
    rw [← this]
    have e : n * 1 - i * 1 = (n - i) * 1 := by rw [Nat.sub_mul]
    simp only [e, Nat.add_mul, Nat.one_mul]
  have hch : Chg (fun k => k = r) W W2 := by
    rw [hW2, hW1]
    exact (((Chg.refl (fun k => k = r) W).drew).put (fun _ => rfl) _).put (fun _ => rfl) _
  clear hd1 ho1 hr1 ha1 hW1 hW2 hl1 htk hcs hxl hr ha hi h1
  have H2 := hid hfin
  have H3 := hid hch
  clear hfin hch
  go_enter Try.func118, Try.ntmps118
  go_wp2_with (simp only [hov])
  have HM := hid (show Nat.min (n + 1 - i) (n - i) = n - i by simp only [Nat.min_def]; split <;> omega)
  have HM2 : 1 ≤ n + 1 - i := by omega
  have hw1 : IntKind.i64.wrap ((i : Int) + 1) = (i : Int) + 1 := by rw [IntKind.wrap_i64]; omega
  have hb1 : (0 : Int) ≤ (i : Int) + 1 := by omega
  have htn : ((i : Int) + 1).toNat = i + 1 := by omega
  have hb2 : ¬ (cap = i + 1) := by omega
  have hb3 : (i : Int) + 1 ≤ (n : Int) + 1 := by omega
  have hb4 : ¬ (cap = i) := by omega
  have hb5 : (i : Int) ≤ (n : Int) + 1 := by omega
  go_region_law (refine step_copy_run (by rfl) _ _ _ (by rfl) _ _ (by simp [Act.eval, Act.put]) (by simp [Act.eval, Act.put]) _ _ (hcp1 _ (n - i) (cap - (i + 1)) (n + 1 - i) (cap - i) HM.out) ?_)
  clear hw1 hb1 htn hb2 hb3
  go_wp2_with (first | (with_reducible refine wpList_copy_run (by rfl) _ _ _ (by rfl) _ _ (by rfl) (by rfl) _ _ (hcp2 _ _ _ HM2) ?_))
  go_ret
  exact ⟨_, rfl, H2.out, H3.out, fun k _ => Nat.le_of_eq (blk_at _ _ _ _ _ none)⟩
set_option maxRecDepth 100000 in
set_option maxHeartbeats 4000000 in
theorem insert_ptr_end (W : World) (v : Value) (n : Nat) (xs : List Value) (hi : Row W 110 1 v n xs) (hn : n ≤ 1000)
    (a : Nat) (news : List Value) (hnl : news.length = 1) (hn1 : ∀ u ∈ news, u.oneCell' = true) (ha : W.heap[a]? = some (.cells news.toArray 110)) :
    Calls Try.prog 118 #[v, .int .i64 n, .slice (some ⟨a, 0, none⟩) 1 1] W fun en W' => ∃ v', en = .returned v' ∧ Row W' 110 1 v' (n + 1) (xs ++ news) ∧ Chg (fun k => blk v k ≠ 0) W W' ∧ (∀ k, k < W.heap.size → blk v' k ≤ blk v k) := by
  obtain ⟨i0, hi0, hz0, hz1, hz2⟩ := info_parts ptr_info
  obtain ⟨v', W1, hrun, hown, hgrow, _, hwhere⟩ := run_append_own_at (P := Try.prog) W 0 116 116 110 i0 _ 1 _ Try.underlying116 hi0 hz0 hz1 hz2 rfl (by omega) v n xs hi ⟨a, 0, none⟩ 1 1 news (by rw [hnl]) (news_at ha 0 news (by simp)) hn1 (by unfold maxLen; omega) (by omega) (Nat.zero_le _)
  obtain ⟨ao, c, rfl⟩ := owns_slice hi
  have hcl : n ≤ c ∧ c ≤ maxLen := by
    rcases hi.2 with ⟨h, h2⟩ | ⟨g, c', cur, hv, _, hh, hnc, hm, hc, ht⟩
    · injection h with _ _ h3; subst h3; unfold maxLen; omega
    · injection hv with _ _ h3; subst h3; exact ⟨hnc, hm⟩
  obtain ⟨hc1, hc2⟩ := hcl
  unfold maxLen at hc2
  have H2 := hid hown
  have H3 := hid (show Chg (fun k => blk (.slice ao n c) k ≠ 0) W W1 from (Chg.of_grown hgrow).mono fun k _ hk => by unfold blk; rw [if_pos hk]; omega)
  have H4 := hid (show ∀ k, k < W.heap.size → blk v' k ≤ blk (.slice ao n c) k from fun k hk => by
    rcases hwhere with h | h
    · unfold blk; rw [h]; exact Nat.le_refl _
    · have : blk v' k = 0 := by unfold blk; rw [if_neg (by rw [h]; intro e; have := Option.some.inj e; omega)]
      omega)
  have hbn : ((n : Int) == (n : Int)) = true := by simp
  clear hown hgrow hwhere hi ha hn1
  rcases Decidable.em (c = n) with rfl | hcn
  all_goals
    go_enter Try.func118, Try.ntmps118
    go_wp2_with (first | (at_builtin; refine wpList_append_run (by rfl) _ _ _ (by rfl) _ _ (by rfl) (by rfl) _ _ hrun ?_))
    go_ret
    exact ⟨_, rfl, H2.out, H3.out, H4.out⟩
set_option maxRecDepth 100000 in
set_option maxHeartbeats 4000000 in
theorem insert_ptr_grow (W : World) (r cap n : Nat) (xs : List Value) (hi : Row W 110 1 (.slice (some ⟨r, 0, none⟩) n cap) n xs) (hn : n ≤ 1000) (h1 : ∀ u ∈ xs, u.oneCell' = true) (i : Nat) (hin : i < n) (hroom : cap < n + 1)
    (a : Nat) (news : List Value) (hnl : news.length = 1) (hn1 : ∀ u ∈ news, u.oneCell' = true) (ha : W.heap[a]? = some (.cells news.toArray 110)) :
    Calls Try.prog 118 #[.slice (some ⟨r, 0, none⟩) n cap, .int .i64 i, .slice (some ⟨a, 0, none⟩) 1 1] W fun en W' => ∃ v', en = .returned v' ∧ Row W' 110 1 v' (n + 1) (xs.take (i * 1) ++ news ++ xs.drop (i * 1)) ∧ Chg (fun k => k = r) W W' ∧ (∀ k, k < W.heap.size → blk v' k ≤ one r k) := by
  obtain ⟨i0, hi0, hz0, hz1, hz2⟩ := info_parts ptr_info
  have hnc : n ≤ cap := by
    rcases hi.2 with ⟨h, _⟩ | ⟨g, c, cur, hv, _, hh, hnc, hm, hc, ht⟩
    · cases h
    · injection hv with h2 _ h3; omega
  have hsz : (Try.prog.info? 110).map (·.size) = some 1 := by rw [hi0]; simp [hz1]
  have hxl := hi.1
  have hcx := hi.cells (g := r) rfl
  have ht1 : ∀ j u, (xs.take (i * 1))[j]? = some u → W.cell? ((⟨r, 0, none⟩ : Addr).add j) = some u := fun j u hu => by
    rw [List.getElem?_take] at hu
    split at hu
    · exact hcx j u hu
    · cases hu
  obtain ⟨cap', hc1, hc2, hrun1⟩ := run_append_zeros_grows (P := Try.prog) W 116 3 116 110 i0 _ .i64 .i64 1 _ Try.underlying116 Try.underlying3 hi0 hz0 hz1 hz2 ⟨r, 0, none⟩ i cap (n + 1 - i) (xs.take (i * 1)) (by rw [List.length_take, hxl]; omega) ht1 (by omega) (by omega) (by omega) (by omega) (by omega)
  rw [show ((n + 1 - i : Nat) : Int) = (n : Int) + 1 - (i : Int) from by omega, show i + (n + 1 - i) = n + 1 from by omega] at hrun1
  rw [show i + (n + 1 - i) = n + 1 from by omega] at hc1
  unfold maxLen at hc2
  obtain ⟨Z, hZ⟩ : ∃ Z : List Value, Z = zerosOf (.pointer none) (n + 1 - i) ++ zerosOf (.pointer none) (cap' - (n + 1)) := ⟨_, rfl⟩
  have hZl : Z.length = (cap' - i) * 1 := by rw [hZ, List.length_append, zerosOf_len, zerosOf_len, show (Value.cells (.pointer none)).size = 1 from rfl, ← Nat.add_mul]; congr 1; omega
  rw [List.append_assoc, ← hZ] at hrun1
  obtain ⟨W1, hW1⟩ : ∃ W1, W1 = W.drew.alloc (.cells (xs.take (i * 1) ++ Z).toArray 110) := ⟨_, rfl⟩
  rw [← hW1] at hrun1
  have hg1 : W1.heap[W.heap.size]? = some (.cells (xs.take (i * 1) ++ Z).toArray 110) := by rw [hW1]; exact heap_alloc_at _ _ _ rfl
  have hal := lt_of_heap ha
  have hrl := (World.ownsRow.lt hi r rfl).2
  have ha1 : W1.heap[a]? = some (.cells news.toArray 110) := by rw [hW1, heap_alloc_other _ _ _ (by exact hal)]; exact ha
  have hmin1 : Nat.min 1 (n + 1 - i) = 1 := Nat.min_eq_left (by omega)
  obtain ⟨W2, hW2⟩ : ∃ W2, W2 = put W1 W.heap.size (.cells ((xs.take (i * 1) ++ Z).take (i * 1) ++ news ++ (xs.take (i * 1) ++ Z).drop (i * 1 + news.length)).toArray 110) := ⟨_, rfl⟩
  have hcp1 : ∀ ty dl dc, 1 ≤ dl → (Builtin.copy_ #[116, 116] ty #[.slice (some ⟨W.heap.size, i, none⟩) dl dc, .slice (some ⟨a, 0, none⟩) 1 1]).run Try.prog W1 = .ok (goInt (Nat.min 1 dl)) W2 := fun ty dl dc hm => by
    have := run_copy_many (P := Try.prog) W1 116 116 ty 110 1 W.heap.size (i) dl dc ⟨a, 0, none⟩ 1 1 _ 110 news Try.underlying116 hsz hg1 (by rw [hnl, show Nat.min 1 dl = 1 from Nat.min_eq_left hm]) (news_at (W := W1) ha1 _ _ (by simp)) (by simp [hZl, hxl, hnl]; omega) hn1
    rw [this, hW2]
    try simp
  have hg2 : W2.heap[W.heap.size]? = some (.cells ((xs.take (i * 1) ++ Z).take (i * 1) ++ news ++ (xs.take (i * 1) ++ Z).drop (i * 1 + news.length)).toArray 110) := by rw [hW2]; exact heap_put_at _ _ _ (lt_of_heap hg1)
  have hr2 : ∀ j u, xs[j]? = some u → W2.cell? ((⟨r, 0, none⟩ : Addr).add j) = some u := fun j u hu => by
    have e : W2.heap[r]? = W.heap[r]? := by rw [hW2, heap_put_other _ _ _ _ (by omega), hW1, heap_alloc_other _ _ _ (by exact hrl)]; rfl
    rw [World.cell?_of_block (w := W)]
    · exact hcx j u hu
    · have : ((⟨r, 0, none⟩ : Addr).add j).block = r := by unfold Addr.add; split <;> rfl
      rw [this]; exact e
  have hd2 : ∀ j u, (xs.drop (i * 1))[j]? = some u → W2.drew.cell? ((⟨r, i, none⟩ : Addr).add j) = some u := fun j u hu => by
    rw [List.getElem?_drop] at hu
    have := hr2 _ u hu
    have e : (⟨r, i, none⟩ : Addr).add j = (⟨r, 0, none⟩ : Addr).add (i * 1 + j) := by rw [add_none, add_none, Nat.zero_add]; try (rw [Nat.mul_one])
    rw [e]; exact this
  have hdl : (xs.drop (i * 1)).length = (n - i) * 1 := by rw [List.length_drop, hxl]; omega
  obtain ⟨W3, hW3⟩ : ∃ W3, W3 = put W2.drew W.heap.size (.cells (((xs.take (i * 1) ++ Z).take (i * 1) ++ news ++ (xs.take (i * 1) ++ Z).drop (i * 1 + news.length)).take (i * 1 + 1) ++ xs.drop (i * 1) ++ ((xs.take (i * 1) ++ Z).take (i * 1) ++ news ++ (xs.take (i * 1) ++ Z).drop (i * 1 + news.length)).drop (i * 1 + 1 + (xs.drop (i * 1)).length)).toArray 110) := ⟨_, rfl⟩
  have hcp2 : ∀ ty dl dc sl sc, Nat.min sl dl = n - i → (Builtin.copy_ #[116, 116] ty #[.slice (some ⟨W.heap.size, i + 1, none⟩) dl dc, .slice (some ⟨r, i, none⟩) sl sc]).run Try.prog W2.drew = .ok (goInt (Nat.min sl dl)) W3 := fun ty dl dc sl sc hm => by
    have := run_copy_many (P := Try.prog) W2.drew 116 116 ty 110 1 W.heap.size (i + 1) dl dc ⟨r, i, none⟩ sl sc _ 110 (xs.drop (i * 1)) Try.underlying116 hsz (by exact hg2) (by rw [hdl, hm]) hd2 (by rw [hdl]; simp [hZl, hxl, hnl]; omega) (fun u hu => h1 u (List.mem_of_mem_drop hu))
    rw [this, hW3]
    congr 3
    first | rfl | (congr 1; first | rfl | omega) | simp [Nat.add_mul]
  have hfin : Row W3 110 1 (.slice (some ⟨W.heap.size, 0, none⟩) (n + 1) cap') (n + 1) (xs.take (i * 1) ++ news ++ xs.drop (i * 1)) := by
    refine ⟨by simp [hxl, hnl]; omega, .inr ⟨W.heap.size, cap', _, rfl, Nat.zero_le _, by rw [hW3]; exact heap_put_at _ _ _ (lt_of_heap hg2), hc1, by unfold maxLen; omega, by simp [hZl, hxl, hnl]; omega, ?_⟩⟩
    have := ins_new xs Z news (i * 1) (n * 1) 1 hxl (by omega) hnl (by rw [hZl]; omega)
    rw [← this]
    simp only [Nat.add_mul, Nat.one_mul]
  have hch : Chg (fun k => k = r) W W3 := by
    have c1 : Chg (fun k => k = r) W W1 := by rw [hW1]; exact ((Chg.refl (fun k => k = r) W).drew).alloc _
    have c2 : Chg (fun k => k = r) W W2 := by rw [hW2]; exact c1.put (fun h => by omega) _
    rw [hW3]
    exact c2.drew.put (fun h => by omega) _
  have H4 := hid (show ∀ k, k < W.heap.size → blk (.slice (some ⟨W.heap.size, 0, none⟩) (n + 1) cap') k ≤ one r k from fun k hk => by rw [blk_at _ _ _ _ _ none]; unfold one; rw [if_neg (by omega)]; omega)
  have H2 := hid hfin
  have H3 := hid hch
  have hzl : W.heap.size = W.heap.size := rfl
  generalize W.heap.size = G at *
  clear hfin hch hd2 hr2 hg2 hg1 ha1 hW1 hW2 hW3 hZ hZl hcx ht1 hi ha h1 hn1 hzl hxl hdl
  have HM := hid (show Nat.min (n - i) (n - i) = n - i from Nat.min_self _)
  have HM2 : 1 ≤ n + 1 - i := by omega
  go_enter Try.func118, Try.ntmps118
  go_wp2_with (first | (at_builtin; refine wpList_append2_run (by rfl) _ _ _ _ (by rfl) _ _ (by rfl) (by rfl) _ _ hrun1 ?_) | (with_reducible refine wpList_copy_run (by rfl) _ _ _ (by rfl) _ _ (by rfl) (by rfl) _ _ (hcp1 _ _ _ HM2) ?_))
  have hw1 : IntKind.i64.wrap ((i : Int) + 1) = (i : Int) + 1 := by rw [IntKind.wrap_i64]; omega
  have hb1 : (0 : Int) ≤ (i : Int) + 1 := by omega
  have htn : ((i : Int) + 1).toNat = i + 1 := by omega
  have hb2 : ¬ (cap' = i + 1) := by omega
  have hb3 : (i : Int) + 1 ≤ (n : Int) + 1 := by omega
  have hb4 : ¬ (cap = i) := by omega
  have hb5 : (i : Int) ≤ (n : Int) := by omega
  go_region_law (refine step_copy_run (by rfl) _ _ _ (by rfl) _ _ (by simp [Act.eval, Act.put]) (by simp [Act.eval, Act.put]) _ _ (hcp2 _ (n - i) (cap' - (i + 1)) (n - i) (cap - i) HM.out) ?_)
  clear hw1 hb1 htn hb2 hb3
  go_wp2
  go_ret
  exact ⟨_, rfl, H2.out, H3.out, H4.out⟩
end Go.Proofs.Ythknenhcnpgkcaa
