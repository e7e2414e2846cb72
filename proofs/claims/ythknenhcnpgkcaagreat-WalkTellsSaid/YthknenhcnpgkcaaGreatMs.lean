/- Texts of this proof, merged: Sl1, Sl2, Sl3. -/
import Derived.Test.YthknenhcnpgkcaaGreatMb
import Derived.Deep.RegionLaw
import Derived.WalkSpells
/- Contracts of package slices at items and at pointers to nodes: Insert. -/
namespace Go.Proofs.YthknenhcnpgkcaaGreat
set_option linter.unusedVariables false
set_option linter.unusedSimpArgs false
open Go.RowKit
theorem item_info : (Tryz.prog.info? 59).map (fun i => (i.zero, i.size, i.bytes)) = some (some (.agg #[.string ⟨#[]⟩, .string ⟨#[]⟩]), 2, 32) := by kernel_rfl
theorem ptr_info : (Tryz.prog.info? 92).map (fun i => (i.zero, i.size, i.bytes)) = some (some (.pointer none), 1, 8) := by kernel_rfl
theorem shape_of {W : World} {r : Nat} {cs : Array Value} {t : TypeId} {fr : Nat × Nat} (h : W.heap[r]? = some (.cells cs t fr)) : W.shape? r = some (t, cs.size) := by simp [World.shape?, h]
theorem frozen_of {W : World} {r : Nat} {cs : Array Value} {t : TypeId} (h : W.heap[r]? = some (.cells cs t (0, 0))) (i : Nat) : W.frozen? ⟨r, i, none⟩ = false := by simp [World.frozen?, h]
theorem add_none (b o j : Nat) : (⟨b, o, none⟩ : Addr).add j = ⟨b, o + j, none⟩ := by unfold Addr.add; split <;> simp_all
theorem news_at {W : World} {r : Nat} {cs : Array Value} {t : TypeId} {fr : Nat × Nat} (h : W.heap[r]? = some (.cells cs t fr)) (o : Nat) (l : List Value) (hl : ∀ j u, l[j]? = some u → cs.toList[o + j]? = some u) : ∀ j u, l[j]? = some u → W.cell? ((⟨r, o, none⟩ : Addr).add j) = some u := by
  intro j u hu
  have e : (⟨r, o, none⟩ : Addr).add j = ⟨r, o + j, none⟩ := by unfold Addr.add; split <;> simp_all
  rw [e]
  have := cell_of_row W r (o + j) cs t fr h
  rw [this]
  simpa using hl j u hu
/-- The cells behind a place, moved up by one element: what copy leaves. -/
theorem ins_cells (cur : List Value) (i n k : Nat) (news : List Value) (hi : i ≤ n) (hk : news.length = k) (hc : n + k ≤ cur.length) :
    (((cur.take (i + k) ++ (cur.drop i).take (n - i) ++ cur.drop (i + k + ((cur.drop i).take (n - i)).length)).take i ++ news ++
      (cur.take (i + k) ++ (cur.drop i).take (n - i) ++ cur.drop (i + k + ((cur.drop i).take (n - i)).length)).drop (i + news.length))).take (n + k) = (cur.take n).take i ++ news ++ (cur.take n).drop i := by
  generalize hM : (cur.drop i).take (n - i) = M
  have hl : M.length = n - i := by rw [← hM, List.length_take, List.length_drop]; omega
  generalize hD : cur.drop (i + k + M.length) = D
  have e1 : (cur.take (i + k) ++ M ++ D).take i = cur.take i := by
    rw [List.append_assoc, List.take_append_of_le_length (by simp; omega), List.take_take, show min i (i + k) = i from by omega]
  have e2 : (cur.take (i + k) ++ M ++ D).drop (i + news.length) = M ++ D := by
    rw [List.append_assoc]
    exact List.drop_left' (by simp; omega)
  rw [e1, e2, ← List.append_assoc, List.take_left' (by simp; omega), List.take_take, show min i n = i from by omega, List.drop_take, hM]
theorem ins_new (xs zs news : List Value) (i n k : Nat) (hx : xs.length = n) (hi : i ≤ n) (hk : news.length = k) (hz : n + k ≤ i + zs.length) :
    ((((xs.take i ++ zs).take i ++ news ++ (xs.take i ++ zs).drop (i + news.length)).take (i + k) ++ xs.drop i ++ ((xs.take i ++ zs).take i ++ news ++ (xs.take i ++ zs).drop (i + news.length)).drop (i + k + (xs.drop i).length))).take (n + k) = xs.take i ++ news ++ xs.drop i := by
  have h1 : (xs.take i ++ zs).take i = xs.take i := by rw [List.take_append_of_le_length (by simp; omega), List.take_take, Nat.min_self]
  rw [h1]
  have h2 : (xs.take i ++ news ++ (xs.take i ++ zs).drop (i + news.length)).take (i + k) = xs.take i ++ news := by
    rw [List.take_append_of_le_length (by simp; omega), List.take_of_length_le (by simp; omega)]
  rw [h2, List.take_append_of_le_length (by simp; omega), List.take_of_length_le (by simp; omega)]
set_option maxRecDepth 100000 in
set_option maxHeartbeats 4000000 in
theorem insert_item_room (W : World) (r cap n : Nat) (xs : List Value) (hi : Row W 59 2 (.slice (some ⟨r, 0, none⟩) n cap) n xs) (hn : n ≤ 1000) (h1 : ∀ u ∈ xs, u.oneCell' = true) (i : Nat) (hin : i < n) (hroom : n + 1 ≤ cap)
    (a : Nat) (news : List Value) (hnl : news.length = 2) (hn1 : ∀ u ∈ news, u.oneCell' = true) (ha : W.heap[a]? = some (.cells news.toArray 59)) (hne : a ≠ r) :
    Calls Tryz.prog 90 #[.slice (some ⟨r, 0, none⟩) n cap, .int .i64 i, .slice (some ⟨a, 0, none⟩) 1 1] W fun en W' => ∃ v', en = .returned v' ∧ Row W' 59 2 v' (n + 1) (xs.take (i * 2) ++ news ++ xs.drop (i * 2)) ∧ Chg (fun k => k = r) W W' ∧ (∀ k, k < W.heap.size → blk v' k ≤ one r k) := by
  obtain ⟨i0, hi0, hz0, hz1, hz2⟩ := info_parts item_info
  obtain ⟨cur, hcap, hr, hcs, htk⟩ : ∃ cur : Array Value, cap ≤ maxLen ∧ W.heap[r]? = some (.cells cur 59) ∧ cur.size = cap * 2 ∧ cur.toList.take (n * 2) = xs := by
    rcases hi.2 with ⟨h, _⟩ | ⟨g, c, cur, hv, _, hh, _, hm, hc, ht⟩
    · cases h
    · injection hv with h2 _ h3
      injection h2 with h2
      obtain rfl : r = g := congrArg Addr.block h2
      subst h3
      exact ⟨cur, hm, hh, hc, ht⟩
  unfold maxLen at hcap
  have hsz : (Tryz.prog.info? 59).map (·.size) = some 2 := by rw [hi0]; simp [hz1]
  have hxl := hi.1
  have hov : ∀ lb cb, (callFunc 97 #[.slice (some ⟨a, 0, none⟩) 1 1, .slice (some ⟨r, (i + 1) * 2, none⟩) lb cb]).run Tryz.prog W = .ok (.value (.bool false)) W := fun lb cb => by
    rw [run_callFunc_extern Tryz.func97 (by kernel_rfl) (by kernel_rfl) (by kernel_rfl) (e := Extern.SlicesOverlaps.overlaps #[22, 22] #[4]) (by kernel_rfl),
      Lib.run_overlaps_apart W 22 4 59 Tryz.underlying22 2 (fun w => by simp [sizeOf, typeInfo, hi0, hz1]) ⟨a, 0, none⟩ ⟨r, (i + 1) * 2, none⟩ 1 1 lb cb hne _ _ _ _ (shape_of ha) (shape_of hr) (by rw [hcs]; omega) (frozen_of ha _) (frozen_of ha _)]
    rfl
  have hd1 : ∀ j u, ((cur.toList.drop (i * 2)).take ((n - i) * 2))[j]? = some u → cur.toList[i * 2 + j]? = some u := by
    intro j u hu
    rw [List.getElem?_take] at hu
    split at hu
    · rw [List.getElem?_drop] at hu; exact hu
    · cases hu
  have hl1 : ((cur.toList.drop (i * 2)).take ((n - i) * 2)).length = (n - i) * 2 := by rw [List.length_take, List.length_drop]; simp only [Array.length_toList, hcs]; omega
  have ho1 : ∀ u ∈ ((cur.toList.drop (i * 2)).take ((n - i) * 2)), u.oneCell' = true := by
    intro u hu
    refine h1 u ?_
    rw [← htk]
    obtain ⟨j, hj⟩ := List.mem_iff_getElem?.1 hu
    have hjl := (List.getElem?_eq_some_iff.1 hj).1
    have := hd1 j u hj
    refine List.mem_iff_getElem?.2 ⟨i * 2 + j, ?_⟩
    rw [List.getElem?_take, if_pos (by omega)]
    exact this
  obtain ⟨W1, hW1⟩ : ∃ W1, W1 = put W.drew r (.cells (cur.toList.take (i * 2 + 2) ++ ((cur.toList.drop (i * 2)).take ((n - i) * 2)) ++ cur.toList.drop (i * 2 + 2 + ((cur.toList.drop (i * 2)).take ((n - i) * 2)).length)).toArray 59) := ⟨_, rfl⟩
  have hcp1 : ∀ ty dl dc sl sc, Nat.min sl dl = n - i → (Builtin.copy_ #[22, 22] ty #[.slice (some ⟨r, (i + 1) * 2, none⟩) dl dc, .slice (some ⟨r, i * 2, none⟩) sl sc]).run Tryz.prog W.drew = .ok (goInt (Nat.min sl dl)) W1 := fun ty dl dc sl sc hm => by
    have := run_copy_many (P := Tryz.prog) W.drew 22 22 ty 59 2 r ((i + 1) * 2) dl dc ⟨r, i * 2, none⟩ sl sc cur 59 ((cur.toList.drop (i * 2)).take ((n - i) * 2)) Tryz.underlying22 hsz hr (by rw [hl1, hm]) (news_at (W := W.drew) hr _ _ (by simpa using hd1)) (by rw [hl1, hcs]; omega) ho1
    rw [this, hW1]
    congr 3
    first | rfl | (congr 1; first | rfl | omega) | simp [Nat.add_mul]
  have hr1 : W1.heap[r]? = some (.cells (cur.toList.take (i * 2 + 2) ++ ((cur.toList.drop (i * 2)).take ((n - i) * 2)) ++ cur.toList.drop (i * 2 + 2 + ((cur.toList.drop (i * 2)).take ((n - i) * 2)).length)).toArray 59) := by rw [hW1]; exact heap_put_at _ _ _ (lt_of_heap hr)
  have ha1 : W1.heap[a]? = some (.cells news.toArray 59) := by rw [hW1, heap_put_other _ _ _ _ hne]; exact ha
  obtain ⟨W2, hW2⟩ : ∃ W2, W2 = put W1 r (.cells ((cur.toList.take (i * 2 + 2) ++ ((cur.toList.drop (i * 2)).take ((n - i) * 2)) ++ cur.toList.drop (i * 2 + 2 + ((cur.toList.drop (i * 2)).take ((n - i) * 2)).length)).take (i * 2) ++ news ++ (cur.toList.take (i * 2 + 2) ++ ((cur.toList.drop (i * 2)).take ((n - i) * 2)) ++ cur.toList.drop (i * 2 + 2 + ((cur.toList.drop (i * 2)).take ((n - i) * 2)).length)).drop (i * 2 + news.length)).toArray 59) := ⟨_, rfl⟩
  have hcp2 : ∀ ty dl dc, 1 ≤ dl → (Builtin.copy_ #[22, 22] ty #[.slice (some ⟨r, i * 2, none⟩) dl dc, .slice (some ⟨a, 0, none⟩) 1 1]).run Tryz.prog W1 = .ok (goInt (Nat.min 1 dl)) W2 := fun ty dl dc hm => by
    have := run_copy_many (P := Tryz.prog) W1 22 22 ty 59 2 r (i * 2) dl dc ⟨a, 0, none⟩ 1 1 _ 59 news Tryz.underlying22 hsz hr1 (by rw [hnl, show Nat.min 1 dl = 1 from Nat.min_eq_left hm]) (news_at (W := W1) ha1 _ _ (by simp)) (by simp [hl1, hcs]; omega) hn1
    rw [this, hW2]
    try simp
  have hfin : Row W2 59 2 (.slice (some ⟨r, 0, none⟩) (n + 1) cap) (n + 1) (xs.take (i * 2) ++ news ++ xs.drop (i * 2)) := by
    refine ⟨by simp [hxl, hnl]; omega, .inr ⟨r, cap, _, rfl, Nat.zero_le _, by rw [hW2]; exact heap_put_at _ _ _ (by rw [hW1, size_put]; exact lt_of_heap hr), hroom, by unfold maxLen; omega, by simp [hl1, hcs, hnl]; omega, ?_⟩⟩
    have := ins_cells cur.toList (i * 2) (n * 2) 2 news (by omega) hnl (by simp [hcs]; omega)
    rw [htk] at this
    rw [← this]
    have e : n * 2 - i * 2 = (n - i) * 2 := by rw [Nat.sub_mul]
    simp only [e, Nat.add_mul, Nat.one_mul]
  have hch : Chg (fun k => k = r) W W2 := by
    rw [hW2, hW1]
    exact (((Chg.refl (fun k => k = r) W).drew).put (fun _ => rfl) _).put (fun _ => rfl) _
  clear hd1 ho1 hr1 ha1 hW1 hW2 hl1 htk hcs hxl hr ha hi h1
  have H2 := hid hfin
  have H3 := hid hch
  clear hfin hch
  go_enter Tryz.func90, Tryz.ntmps90
  go_wp2_with (simp only [hov])
  have HM := hid (show Nat.min (n + 1 - i) (n - i) = n - i by simp only [Nat.min_def]; split <;> omega)
  have HM2 : 1 ≤ n + 1 - i := by omega
  have hw1 : IntKind.i64.wrap ((i : Int) + 1) = (i : Int) + 1 := by rw [IntKind.wrap_i64]; omega
  have hb1 : (0 : Int) ≤ (i : Int) + 1 := by omega
  have htn : ((i : Int) + 1).toNat = i + 1 := by omega
  have hb2 : ¬ (cap = i + 1) := by omega
  have hb3 : (i : Int) + 1 ≤ (n : Int) + 1 := by omega
  have hb4 : ¬ (cap = i) := by omega
  have hb5 : (i : Int) ≤ (n : Int) + 1 := by omega
  go_region_law (refine step_copy_run (by rfl) _ _ _ (by rfl) _ _ (by simp [Act.eval, Act.put]) (by simp [Act.eval, Act.put]) _ _ (hcp1 _ (n - i) (cap - (i + 1)) (n + 1 - i) (cap - i) HM.out) ?_)
  clear hw1 hb1 htn hb2 hb3
  go_wp2_with (first | (with_reducible refine wpList_copy_run (by rfl) _ _ _ (by rfl) _ _ (by rfl) (by rfl) _ _ (hcp2 _ _ _ HM2) ?_))
  go_ret
  exact ⟨_, rfl, H2.out, H3.out, fun k _ => Nat.le_of_eq (blk_at _ _ _ _ _ none)⟩
set_option maxRecDepth 100000 in
set_option maxHeartbeats 4000000 in
theorem insert_item_end (W : World) (v : Value) (n : Nat) (xs : List Value) (hi : Row W 59 2 v n xs) (hn : n ≤ 1000)
    (a : Nat) (news : List Value) (hnl : news.length = 2) (hn1 : ∀ u ∈ news, u.oneCell' = true) (ha : W.heap[a]? = some (.cells news.toArray 59)) :
    Calls Tryz.prog 90 #[v, .int .i64 n, .slice (some ⟨a, 0, none⟩) 1 1] W fun en W' => ∃ v', en = .returned v' ∧ Row W' 59 2 v' (n + 1) (xs ++ news) ∧ Chg (fun k => blk v k ≠ 0) W W' ∧ (∀ k, k < W.heap.size → blk v' k ≤ blk v k) := by
  obtain ⟨i0, hi0, hz0, hz1, hz2⟩ := info_parts item_info
  obtain ⟨v', W1, hrun, hown, hgrow, _, hwhere⟩ := run_append_own_at (P := Tryz.prog) W 0 22 22 59 i0 _ 2 _ Tryz.underlying22 hi0 hz0 hz1 hz2 rfl (by omega) v n xs hi ⟨a, 0, none⟩ 1 1 news (by rw [hnl]) (news_at ha 0 news (by simp)) hn1 (by unfold maxLen; omega) (by omega) (Nat.zero_le _)
  obtain ⟨ao, c, rfl⟩ := owns_slice hi
  have hcl : n ≤ c ∧ c ≤ maxLen := by
    rcases hi.2 with ⟨h, h2⟩ | ⟨g, c', cur, hv, _, hh, hnc, hm, hc, ht⟩
    · injection h with _ _ h3; subst h3; unfold maxLen; omega
    · injection hv with _ _ h3; subst h3; exact ⟨hnc, hm⟩
  obtain ⟨hc1, hc2⟩ := hcl
  unfold maxLen at hc2
  have H2 := hid hown
  have H3 := hid (show Chg (fun k => blk (.slice ao n c) k ≠ 0) W W1 from (Chg.of_grown hgrow).mono fun k _ hk => by unfold blk; rw [if_pos hk]; omega)
  have H4 := hid (show ∀ k, k < W.heap.size → blk v' k ≤ blk (.slice ao n c) k from fun k hk => by
    rcases hwhere with h | h
    · unfold blk; rw [h]; exact Nat.le_refl _
    · have : blk v' k = 0 := by unfold blk; rw [if_neg (by rw [h]; intro e; have := Option.some.inj e; omega)]
      omega)
  have hbn : ((n : Int) == (n : Int)) = true := by simp
  clear hown hgrow hwhere hi ha hn1
  rcases Decidable.em (c = n) with rfl | hcn
  all_goals
    go_enter Tryz.func90, Tryz.ntmps90
    go_wp2_with (first | (at_builtin; refine wpList_append_run (by rfl) _ _ _ (by rfl) _ _ (by rfl) (by rfl) _ _ hrun ?_))
    go_ret
    exact ⟨_, rfl, H2.out, H3.out, H4.out⟩
set_option maxRecDepth 100000 in
set_option maxHeartbeats 4000000 in
theorem insert_item_grow (W : World) (r cap n : Nat) (xs : List Value) (hi : Row W 59 2 (.slice (some ⟨r, 0, none⟩) n cap) n xs) (hn : n ≤ 1000) (h1 : ∀ u ∈ xs, u.oneCell' = true) (i : Nat) (hin : i < n) (hroom : cap < n + 1)
    (a : Nat) (news : List Value) (hnl : news.length = 2) (hn1 : ∀ u ∈ news, u.oneCell' = true) (ha : W.heap[a]? = some (.cells news.toArray 59)) :
    Calls Tryz.prog 90 #[.slice (some ⟨r, 0, none⟩) n cap, .int .i64 i, .slice (some ⟨a, 0, none⟩) 1 1] W fun en W' => ∃ v', en = .returned v' ∧ Row W' 59 2 v' (n + 1) (xs.take (i * 2) ++ news ++ xs.drop (i * 2)) ∧ Chg (fun k => k = r) W W' ∧ (∀ k, k < W.heap.size → blk v' k ≤ one r k) := by
  obtain ⟨i0, hi0, hz0, hz1, hz2⟩ := info_parts item_info
  have hnc : n ≤ cap := by
    rcases hi.2 with ⟨h, _⟩ | ⟨g, c, cur, hv, _, hh, hnc, hm, hc, ht⟩
    · cases h
    · injection hv with h2 _ h3; omega
  have hsz : (Tryz.prog.info? 59).map (·.size) = some 2 := by rw [hi0]; simp [hz1]
  have hxl := hi.1
  have hcx := hi.cells (g := r) rfl
  have ht1 : ∀ j u, (xs.take (i * 2))[j]? = some u → W.cell? ((⟨r, 0, none⟩ : Addr).add j) = some u := fun j u hu => by
    rw [List.getElem?_take] at hu
    split at hu
    · exact hcx j u hu
    · cases hu
  obtain ⟨cap', hc1, hc2, hrun1⟩ := run_append_zeros_grows (P := Tryz.prog) W 22 3 22 59 i0 _ .i64 .i64 2 _ Tryz.underlying22 Tryz.underlying3 hi0 hz0 hz1 hz2 ⟨r, 0, none⟩ i cap (n + 1 - i) (xs.take (i * 2)) (by rw [List.length_take, hxl]; omega) ht1 (by omega) (by omega) (by omega) (by omega) (by omega)
  rw [show ((n + 1 - i : Nat) : Int) = (n : Int) + 1 - (i : Int) from by omega, show i + (n + 1 - i) = n + 1 from by omega] at hrun1
  rw [show i + (n + 1 - i) = n + 1 from by omega] at hc1
  unfold maxLen at hc2
  obtain ⟨Z, hZ⟩ : ∃ Z : List Value, Z = zerosOf (.agg #[.string ⟨#[]⟩, .string ⟨#[]⟩]) (n + 1 - i) ++ zerosOf (.agg #[.string ⟨#[]⟩, .string ⟨#[]⟩]) (cap' - (n + 1)) := ⟨_, rfl⟩
  have hZl : Z.length = (cap' - i) * 2 := by rw [hZ, List.length_append, zerosOf_len, zerosOf_len, show (Value.cells (.agg #[.string ⟨#[]⟩, .string ⟨#[]⟩])).size = 2 from rfl, ← Nat.add_mul]; congr 1; omega
  rw [List.append_assoc, ← hZ] at hrun1
  obtain ⟨W1, hW1⟩ : ∃ W1, W1 = W.drew.alloc (.cells (xs.take (i * 2) ++ Z).toArray 59) := ⟨_, rfl⟩
  rw [← hW1] at hrun1
  have hg1 : W1.heap[W.heap.size]? = some (.cells (xs.take (i * 2) ++ Z).toArray 59) := by rw [hW1]; exact heap_alloc_at _ _ _ rfl
  have hal := lt_of_heap ha
  have hrl := (World.ownsRow.lt hi r rfl).2
  have ha1 : W1.heap[a]? = some (.cells news.toArray 59) := by rw [hW1, heap_alloc_other _ _ _ (by exact hal)]; exact ha
  have hmin1 : Nat.min 1 (n + 1 - i) = 1 := Nat.min_eq_left (by omega)
  obtain ⟨W2, hW2⟩ : ∃ W2, W2 = put W1 W.heap.size (.cells ((xs.take (i * 2) ++ Z).take (i * 2) ++ news ++ (xs.take (i * 2) ++ Z).drop (i * 2 + news.length)).toArray 59) := ⟨_, rfl⟩
  have hcp1 : ∀ ty dl dc, 1 ≤ dl → (Builtin.copy_ #[22, 22] ty #[.slice (some ⟨W.heap.size, i * 2, none⟩) dl dc, .slice (some ⟨a, 0, none⟩) 1 1]).run Tryz.prog W1 = .ok (goInt (Nat.min 1 dl)) W2 := fun ty dl dc hm => by
    have := run_copy_many (P := Tryz.prog) W1 22 22 ty 59 2 W.heap.size (i * 2) dl dc ⟨a, 0, none⟩ 1 1 _ 59 news Tryz.underlying22 hsz hg1 (by rw [hnl, show Nat.min 1 dl = 1 from Nat.min_eq_left hm]) (news_at (W := W1) ha1 _ _ (by simp)) (by simp [hZl, hxl, hnl]; omega) hn1
    rw [this, hW2]
    try simp
  have hg2 : W2.heap[W.heap.size]? = some (.cells ((xs.take (i * 2) ++ Z).take (i * 2) ++ news ++ (xs.take (i * 2) ++ Z).drop (i * 2 + news.length)).toArray 59) := by rw [hW2]; exact heap_put_at _ _ _ (lt_of_heap hg1)
  have hr2 : ∀ j u, xs[j]? = some u → W2.cell? ((⟨r, 0, none⟩ : Addr).add j) = some u := fun j u hu => by
    have e : W2.heap[r]? = W.heap[r]? := by rw [hW2, heap_put_other _ _ _ _ (by omega), hW1, heap_alloc_other _ _ _ (by exact hrl)]; rfl
    rw [World.cell?_of_block (w := W)]
    · exact hcx j u hu
    · have : ((⟨r, 0, none⟩ : Addr).add j).block = r := by unfold Addr.add; split <;> rfl
      rw [this]; exact e
  have hd2 : ∀ j u, (xs.drop (i * 2))[j]? = some u → W2.drew.cell? ((⟨r, i * 2, none⟩ : Addr).add j) = some u := fun j u hu => by
    rw [List.getElem?_drop] at hu
    have := hr2 _ u hu
    have e : (⟨r, i * 2, none⟩ : Addr).add j = (⟨r, 0, none⟩ : Addr).add (i * 2 + j) := by rw [add_none, add_none, Nat.zero_add]; try (rw [Nat.mul_one])
    rw [e]; exact this
  have hdl : (xs.drop (i * 2)).length = (n - i) * 2 := by rw [List.length_drop, hxl]; omega
  obtain ⟨W3, hW3⟩ : ∃ W3, W3 = put W2.drew W.heap.size (.cells (((xs.take (i * 2) ++ Z).take (i * 2) ++ news ++ (xs.take (i * 2) ++ Z).drop (i * 2 + news.length)).take (i * 2 + 2) ++ xs.drop (i * 2) ++ ((xs.take (i * 2) ++ Z).take (i * 2) ++ news ++ (xs.take (i * 2) ++ Z).drop (i * 2 + news.length)).drop (i * 2 + 2 + (xs.drop (i * 2)).length)).toArray 59) := ⟨_, rfl⟩
  have hcp2 : ∀ ty dl dc sl sc, Nat.min sl dl = n - i → (Builtin.copy_ #[22, 22] ty #[.slice (some ⟨W.heap.size, (i + 1) * 2, none⟩) dl dc, .slice (some ⟨r, i * 2, none⟩) sl sc]).run Tryz.prog W2.drew = .ok (goInt (Nat.min sl dl)) W3 := fun ty dl dc sl sc hm => by
    have := run_copy_many (P := Tryz.prog) W2.drew 22 22 ty 59 2 W.heap.size ((i + 1) * 2) dl dc ⟨r, i * 2, none⟩ sl sc _ 59 (xs.drop (i * 2)) Tryz.underlying22 hsz (by exact hg2) (by rw [hdl, hm]) hd2 (by rw [hdl]; simp [hZl, hxl, hnl]; omega) (fun u hu => h1 u (List.mem_of_mem_drop hu))
    rw [this, hW3]
    congr 3
    first | rfl | (congr 1; first | rfl | omega) | simp [Nat.add_mul]
  have hfin : Row W3 59 2 (.slice (some ⟨W.heap.size, 0, none⟩) (n + 1) cap') (n + 1) (xs.take (i * 2) ++ news ++ xs.drop (i * 2)) := by
    refine ⟨by simp [hxl, hnl]; omega, .inr ⟨W.heap.size, cap', _, rfl, Nat.zero_le _, by rw [hW3]; exact heap_put_at _ _ _ (lt_of_heap hg2), hc1, by unfold maxLen; omega, by simp [hZl, hxl, hnl]; omega, ?_⟩⟩
    have := ins_new xs Z news (i * 2) (n * 2) 2 hxl (by omega) hnl (by rw [hZl]; omega)
    rw [← this]
    simp only [Nat.add_mul, Nat.one_mul]
  have hch : Chg (fun k => k = r) W W3 := by
    have c1 : Chg (fun k => k = r) W W1 := by rw [hW1]; exact ((Chg.refl (fun k => k = r) W).drew).alloc _
    have c2 : Chg (fun k => k = r) W W2 := by rw [hW2]; exact c1.put (fun h => by omega) _
    rw [hW3]
    exact c2.drew.put (fun h => by omega) _
  have H4 := hid (show ∀ k, k < W.heap.size → blk (.slice (some ⟨W.heap.size, 0, none⟩) (n + 1) cap') k ≤ one r k from fun k hk => by rw [blk_at _ _ _ _ _ none]; unfold one; rw [if_neg (by omega)]; omega)
  have H2 := hid hfin
  have H3 := hid hch
  have hzl : W.heap.size = W.heap.size := rfl
  generalize W.heap.size = G at *
  clear hfin hch hd2 hr2 hg2 hg1 ha1 hW1 hW2 hW3 hZ hZl hcx ht1 hi ha h1 hn1 hzl hxl hdl
  have HM := hid (show Nat.min (n - i) (n - i) = n - i from Nat.min_self _)
  have HM2 : 1 ≤ n + 1 - i := by omega
  go_enter Tryz.func90, Tryz.ntmps90
  go_wp2_with (first | (at_builtin; refine wpList_append2_run (by rfl) _ _ _ _ (by rfl) _ _ (by rfl) (by rfl) _ _ hrun1 ?_) | (with_reducible refine wpList_copy_run (by rfl) _ _ _ (by rfl) _ _ (by rfl) (by rfl) _ _ (hcp1 _ _ _ HM2) ?_))
  have hw1 : IntKind.i64.wrap ((i : Int) + 1) = (i : Int) + 1 := by rw [IntKind.wrap_i64]; omega
  have hb1 : (0 : Int) ≤ (i : Int) + 1 := by omega
  have htn : ((i : Int) + 1).toNat = i + 1 := by omega
  have hb2 : ¬ (cap' = i + 1) := by omega
  have hb3 : (i : Int) + 1 ≤ (n : Int) + 1 := by omega
  have hb4 : ¬ (cap = i) := by omega
  have hb5 : (i : Int) ≤ (n : Int) := by omega
  go_region_law (refine step_copy_run (by rfl) _ _ _ (by rfl) _ _ (by simp [Act.eval, Act.put]) (by simp [Act.eval, Act.put]) _ _ (hcp2 _ (n - i) (cap' - (i + 1)) (n - i) (cap - i) HM.out) ?_)
  clear hw1 hb1 htn hb2 hb3
  go_wp2
  go_ret
  exact ⟨_, rfl, H2.out, H3.out, H4.out⟩
set_option maxRecDepth 100000 in
set_option maxHeartbeats 4000000 in
theorem insert_ptr_room (W : World) (r cap n : Nat) (xs : List Value) (hi : Row W 92 1 (.slice (some ⟨r, 0, none⟩) n cap) n xs) (hn : n ≤ 1000) (h1 : ∀ u ∈ xs, u.oneCell' = true) (i : Nat) (hin : i < n) (hroom : n + 1 ≤ cap)
    (a : Nat) (news : List Value) (hnl : news.length = 1) (hn1 : ∀ u ∈ news, u.oneCell' = true) (ha : W.heap[a]? = some (.cells news.toArray 92)) (hne : a ≠ r) :
    Calls Tryz.prog 91 #[.slice (some ⟨r, 0, none⟩) n cap, .int .i64 i, .slice (some ⟨a, 0, none⟩) 1 1] W fun en W' => ∃ v', en = .returned v' ∧ Row W' 92 1 v' (n + 1) (xs.take (i * 1) ++ news ++ xs.drop (i * 1)) ∧ Chg (fun k => k = r) W W' ∧ (∀ k, k < W.heap.size → blk v' k ≤ one r k) := by
  obtain ⟨i0, hi0, hz0, hz1, hz2⟩ := info_parts ptr_info
  obtain ⟨cur, hcap, hr, hcs, htk⟩ : ∃ cur : Array Value, cap ≤ maxLen ∧ W.heap[r]? = some (.cells cur 92) ∧ cur.size = cap * 1 ∧ cur.toList.take (n * 1) = xs := by
    rcases hi.2 with ⟨h, _⟩ | ⟨g, c, cur, hv, _, hh, _, hm, hc, ht⟩
    · cases h
    · injection hv with h2 _ h3
      injection h2 with h2
      obtain rfl : r = g := congrArg Addr.block h2
      subst h3
      exact ⟨cur, hm, hh, hc, ht⟩
  unfold maxLen at hcap
  have hsz : (Tryz.prog.info? 92).map (·.size) = some 1 := by rw [hi0]; simp [hz1]
  have hxl := hi.1
  have hov : ∀ lb cb, (callFunc 99 #[.slice (some ⟨a, 0, none⟩) 1 1, .slice (some ⟨r, i + 1, none⟩) lb cb]).run Tryz.prog W = .ok (.value (.bool false)) W := fun lb cb => by
    rw [run_callFunc_extern Tryz.func99 (by kernel_rfl) (by kernel_rfl) (by kernel_rfl) (e := Extern.SlicesOverlaps.overlaps #[99, 99] #[4]) (by kernel_rfl),
      Lib.run_overlaps_apart W 99 4 92 Tryz.underlying99 1 (fun w => by simp [sizeOf, typeInfo, hi0, hz1]) ⟨a, 0, none⟩ ⟨r, i + 1, none⟩ 1 1 lb cb hne _ _ _ _ (shape_of ha) (shape_of hr) (by rw [hcs]; omega) (frozen_of ha _) (frozen_of ha _)]
    rfl
  have hd1 : ∀ j u, ((cur.toList.drop (i * 1)).take ((n - i) * 1))[j]? = some u → cur.toList[i * 1 + j]? = some u := by
    intro j u hu
    rw [List.getElem?_take] at hu
    split at hu
    · rw [List.getElem?_drop] at hu; exact hu
    · cases hu
  have hl1 : ((cur.toList.drop (i * 1)).take ((n - i) * 1)).length = (n - i) * 1 := by rw [List.length_take, List.length_drop]; simp only [Array.length_toList, hcs]; omega
  have ho1 : ∀ u ∈ ((cur.toList.drop (i * 1)).take ((n - i) * 1)), u.oneCell' = true := by
    intro u hu
    refine h1 u ?_
    rw [← htk]
    obtain ⟨j, hj⟩ := List.mem_iff_getElem?.1 hu
    have hjl := (List.getElem?_eq_some_iff.1 hj).1
    have := hd1 j u hj
    refine List.mem_iff_getElem?.2 ⟨i * 1 + j, ?_⟩
    rw [List.getElem?_take, if_pos (by omega)]
    exact this
  obtain ⟨W1, hW1⟩ : ∃ W1, W1 = put W.drew r (.cells (cur.toList.take (i * 1 + 1) ++ ((cur.toList.drop (i * 1)).take ((n - i) * 1)) ++ cur.toList.drop (i * 1 + 1 + ((cur.toList.drop (i * 1)).take ((n - i) * 1)).length)).toArray 92) := ⟨_, rfl⟩
  have hcp1 : ∀ ty dl dc sl sc, Nat.min sl dl = n - i → (Builtin.copy_ #[99, 99] ty #[.slice (some ⟨r, i + 1, none⟩) dl dc, .slice (some ⟨r, i, none⟩) sl sc]).run Tryz.prog W.drew = .ok (goInt (Nat.min sl dl)) W1 := fun ty dl dc sl sc hm => by
    have := run_copy_many (P := Tryz.prog) W.drew 99 99 ty 92 1 r (i + 1) dl dc ⟨r, i, none⟩ sl sc cur 92 ((cur.toList.drop (i * 1)).take ((n - i) * 1)) Tryz.underlying99 hsz hr (by rw [hl1, hm]) (news_at (W := W.drew) hr _ _ (by simpa using hd1)) (by rw [hl1, hcs]; omega) ho1
    rw [this, hW1]
    congr 3
    first | rfl | (congr 1; first | rfl | omega) | simp [Nat.add_mul]
  have hr1 : W1.heap[r]? = some (.cells (cur.toList.take (i * 1 + 1) ++ ((cur.toList.drop (i * 1)).take ((n - i) * 1)) ++ cur.toList.drop (i * 1 + 1 + ((cur.toList.drop (i * 1)).take ((n - i) * 1)).length)).toArray 92) := by rw [hW1]; exact heap_put_at _ _ _ (lt_of_heap hr)
  have ha1 : W1.heap[a]? = some (.cells news.toArray 92) := by rw [hW1, heap_put_other _ _ _ _ hne]; exact ha
  obtain ⟨W2, hW2⟩ : ∃ W2, W2 = put W1 r (.cells ((cur.toList.take (i * 1 + 1) ++ ((cur.toList.drop (i * 1)).take ((n - i) * 1)) ++ cur.toList.drop (i * 1 + 1 + ((cur.toList.drop (i * 1)).take ((n - i) * 1)).length)).take (i * 1) ++ news ++ (cur.toList.take (i * 1 + 1) ++ ((cur.toList.drop (i * 1)).take ((n - i) * 1)) ++ cur.toList.drop (i * 1 + 1 + ((cur.toList.drop (i * 1)).take ((n - i) * 1)).length)).drop (i * 1 + news.length)).toArray 92) := ⟨_, rfl⟩
  have hcp2 : ∀ ty dl dc, 1 ≤ dl → (Builtin.copy_ #[99, 99] ty #[.slice (some ⟨r, i, none⟩) dl dc, .slice (some ⟨a, 0, none⟩) 1 1]).run Tryz.prog W1 = .ok (goInt (Nat.min 1 dl)) W2 := fun ty dl dc hm => by
    have := run_copy_many (P := Tryz.prog) W1 99 99 ty 92 1 r (i) dl dc ⟨a, 0, none⟩ 1 1 _ 92 news Tryz.underlying99 hsz hr1 (by rw [hnl, show Nat.min 1 dl = 1 from Nat.min_eq_left hm]) (news_at (W := W1) ha1 _ _ (by simp)) (by simp [hl1, hcs]; omega) hn1
    rw [this, hW2]
    try simp
  have hfin : Row W2 92 1 (.slice (some ⟨r, 0, none⟩) (n + 1) cap) (n + 1) (xs.take (i * 1) ++ news ++ xs.drop (i * 1)) := by
    refine ⟨by simp [hxl, hnl]; omega, .inr ⟨r, cap, _, rfl, Nat.zero_le _, by rw [hW2]; exact heap_put_at _ _ _ (by rw [hW1, size_put]; exact lt_of_heap hr), hroom, by unfold maxLen; omega, by simp [hl1, hcs, hnl]; omega, ?_⟩⟩
    have := ins_cells cur.toList (i * 1) (n * 1) 1 news (by omega) hnl (by simp [hcs]; omega)
    rw [htk] at this
    rw [← this]
    have e : n * 1 - i * 1 = (n - i) * 1 := by rw [Nat.sub_mul]
    simp only [e, Nat.add_mul, Nat.one_mul]
  have hch : Chg (fun k => k = r) W W2 := by
    rw [hW2, hW1]
    exact (((Chg.refl (fun k => k = r) W).drew).put (fun _ => rfl) _).put (fun _ => rfl) _
  clear hd1 ho1 hr1 ha1 hW1 hW2 hl1 htk hcs hxl hr ha hi h1
  have H2 := hid hfin
  have H3 := hid hch
  clear hfin hch
  go_enter Tryz.func91, Tryz.ntmps91
  go_wp2_with (simp only [hov])
  have HM := hid (show Nat.min (n + 1 - i) (n - i) = n - i by simp only [Nat.min_def]; split <;> omega)
  have HM2 : 1 ≤ n + 1 - i := by omega
  have hw1 : IntKind.i64.wrap ((i : Int) + 1) = (i : Int) + 1 := by rw [IntKind.wrap_i64]; omega
  have hb1 : (0 : Int) ≤ (i : Int) + 1 := by omega
  have htn : ((i : Int) + 1).toNat = i + 1 := by omega
  have hb2 : ¬ (cap = i + 1) := by omega
  have hb3 : (i : Int) + 1 ≤ (n : Int) + 1 := by omega
  have hb4 : ¬ (cap = i) := by omega
  have hb5 : (i : Int) ≤ (n : Int) + 1 := by omega
  go_region_law (refine step_copy_run (by rfl) _ _ _ (by rfl) _ _ (by simp [Act.eval, Act.put]) (by simp [Act.eval, Act.put]) _ _ (hcp1 _ (n - i) (cap - (i + 1)) (n + 1 - i) (cap - i) HM.out) ?_)
  clear hw1 hb1 htn hb2 hb3
  go_wp2_with (first | (with_reducible refine wpList_copy_run (by rfl) _ _ _ (by rfl) _ _ (by rfl) (by rfl) _ _ (hcp2 _ _ _ HM2) ?_))
  go_ret
  exact ⟨_, rfl, H2.out, H3.out, fun k _ => Nat.le_of_eq (blk_at _ _ _ _ _ none)⟩
set_option maxRecDepth 100000 in
set_option maxHeartbeats 4000000 in
theorem insert_ptr_end (W : World) (v : Value) (n : Nat) (xs : List Value) (hi : Row W 92 1 v n xs) (hn : n ≤ 1000)
    (a : Nat) (news : List Value) (hnl : news.length = 1) (hn1 : ∀ u ∈ news, u.oneCell' = true) (ha : W.heap[a]? = some (.cells news.toArray 92)) :
    Calls Tryz.prog 91 #[v, .int .i64 n, .slice (some ⟨a, 0, none⟩) 1 1] W fun en W' => ∃ v', en = .returned v' ∧ Row W' 92 1 v' (n + 1) (xs ++ news) ∧ Chg (fun k => blk v k ≠ 0) W W' ∧ (∀ k, k < W.heap.size → blk v' k ≤ blk v k) := by
  obtain ⟨i0, hi0, hz0, hz1, hz2⟩ := info_parts ptr_info
  obtain ⟨v', W1, hrun, hown, hgrow, _, hwhere⟩ := run_append_own_at (P := Tryz.prog) W 0 99 99 92 i0 _ 1 _ Tryz.underlying99 hi0 hz0 hz1 hz2 rfl (by omega) v n xs hi ⟨a, 0, none⟩ 1 1 news (by rw [hnl]) (news_at ha 0 news (by simp)) hn1 (by unfold maxLen; omega) (by omega) (Nat.zero_le _)
  obtain ⟨ao, c, rfl⟩ := owns_slice hi
  have hcl : n ≤ c ∧ c ≤ maxLen := by
    rcases hi.2 with ⟨h, h2⟩ | ⟨g, c', cur, hv, _, hh, hnc, hm, hc, ht⟩
    · injection h with _ _ h3; subst h3; unfold maxLen; omega
    · injection hv with _ _ h3; subst h3; exact ⟨hnc, hm⟩
  obtain ⟨hc1, hc2⟩ := hcl
  unfold maxLen at hc2
  have H2 := hid hown
  have H3 := hid (show Chg (fun k => blk (.slice ao n c) k ≠ 0) W W1 from (Chg.of_grown hgrow).mono fun k _ hk => by unfold blk; rw [if_pos hk]; omega)
  have H4 := hid (show ∀ k, k < W.heap.size → blk v' k ≤ blk (.slice ao n c) k from fun k hk => by
    rcases hwhere with h | h
    · unfold blk; rw [h]; exact Nat.le_refl _
    · have : blk v' k = 0 := by unfold blk; rw [if_neg (by rw [h]; intro e; have := Option.some.inj e; omega)]
      omega)
  have hbn : ((n : Int) == (n : Int)) = true := by simp
  clear hown hgrow hwhere hi ha hn1
  rcases Decidable.em (c = n) with rfl | hcn
  all_goals
    go_enter Tryz.func91, Tryz.ntmps91
    go_wp2_with (first | (at_builtin; refine wpList_append_run (by rfl) _ _ _ (by rfl) _ _ (by rfl) (by rfl) _ _ hrun ?_))
    go_ret
    exact ⟨_, rfl, H2.out, H3.out, H4.out⟩
set_option maxRecDepth 100000 in
set_option maxHeartbeats 4000000 in
theorem insert_ptr_grow (W : World) (r cap n : Nat) (xs : List Value) (hi : Row W 92 1 (.slice (some ⟨r, 0, none⟩) n cap) n xs) (hn : n ≤ 1000) (h1 : ∀ u ∈ xs, u.oneCell' = true) (i : Nat) (hin : i < n) (hroom : cap < n + 1)
    (a : Nat) (news : List Value) (hnl : news.length = 1) (hn1 : ∀ u ∈ news, u.oneCell' = true) (ha : W.heap[a]? = some (.cells news.toArray 92)) :
    Calls Tryz.prog 91 #[.slice (some ⟨r, 0, none⟩) n cap, .int .i64 i, .slice (some ⟨a, 0, none⟩) 1 1] W fun en W' => ∃ v', en = .returned v' ∧ Row W' 92 1 v' (n + 1) (xs.take (i * 1) ++ news ++ xs.drop (i * 1)) ∧ Chg (fun k => k = r) W W' ∧ (∀ k, k < W.heap.size → blk v' k ≤ one r k) := by
  obtain ⟨i0, hi0, hz0, hz1, hz2⟩ := info_parts ptr_info
  have hnc : n ≤ cap := by
    rcases hi.2 with ⟨h, _⟩ | ⟨g, c, cur, hv, _, hh, hnc, hm, hc, ht⟩
    · cases h
    · injection hv with h2 _ h3; omega
  have hsz : (Tryz.prog.info? 92).map (·.size) = some 1 := by rw [hi0]; simp [hz1]
  have hxl := hi.1
  have hcx := hi.cells (g := r) rfl
  have ht1 : ∀ j u, (xs.take (i * 1))[j]? = some u → W.cell? ((⟨r, 0, none⟩ : Addr).add j) = some u := fun j u hu => by
    rw [List.getElem?_take] at hu
    split at hu
    · exact hcx j u hu
    · cases hu
  obtain ⟨cap', hc1, hc2, hrun1⟩ := run_append_zeros_grows (P := Tryz.prog) W 99 3 99 92 i0 _ .i64 .i64 1 _ Tryz.underlying99 Tryz.underlying3 hi0 hz0 hz1 hz2 ⟨r, 0, none⟩ i cap (n + 1 - i) (xs.take (i * 1)) (by rw [List.length_take, hxl]; omega) ht1 (by omega) (by omega) (by omega) (by omega) (by omega)
  rw [show ((n + 1 - i : Nat) : Int) = (n : Int) + 1 - (i : Int) from by omega, show i + (n + 1 - i) = n + 1 from by omega] at hrun1
  rw [show i + (n + 1 - i) = n + 1 from by omega] at hc1
  unfold maxLen at hc2
  obtain ⟨Z, hZ⟩ : ∃ Z : List Value, Z = zerosOf (.pointer none) (n + 1 - i) ++ zerosOf (.pointer none) (cap' - (n + 1)) := ⟨_, rfl⟩
  have hZl : Z.length = (cap' - i) * 1 := by rw [hZ, List.length_append, zerosOf_len, zerosOf_len, show (Value.cells (.pointer none)).size = 1 from rfl, ← Nat.add_mul]; congr 1; omega
  rw [List.append_assoc, ← hZ] at hrun1
  obtain ⟨W1, hW1⟩ : ∃ W1, W1 = W.drew.alloc (.cells (xs.take (i * 1) ++ Z).toArray 92) := ⟨_, rfl⟩
  rw [← hW1] at hrun1
  have hg1 : W1.heap[W.heap.size]? = some (.cells (xs.take (i * 1) ++ Z).toArray 92) := by rw [hW1]; exact heap_alloc_at _ _ _ rfl
  have hal := lt_of_heap ha
  have hrl := (World.ownsRow.lt hi r rfl).2
  have ha1 : W1.heap[a]? = some (.cells news.toArray 92) := by rw [hW1, heap_alloc_other _ _ _ (by exact hal)]; exact ha
  have hmin1 : Nat.min 1 (n + 1 - i) = 1 := Nat.min_eq_left (by omega)
  obtain ⟨W2, hW2⟩ : ∃ W2, W2 = put W1 W.heap.size (.cells ((xs.take (i * 1) ++ Z).take (i * 1) ++ news ++ (xs.take (i * 1) ++ Z).drop (i * 1 + news.length)).toArray 92) := ⟨_, rfl⟩
  have hcp1 : ∀ ty dl dc, 1 ≤ dl → (Builtin.copy_ #[99, 99] ty #[.slice (some ⟨W.heap.size, i, none⟩) dl dc, .slice (some ⟨a, 0, none⟩) 1 1]).run Tryz.prog W1 = .ok (goInt (Nat.min 1 dl)) W2 := fun ty dl dc hm => by
    have := run_copy_many (P := Tryz.prog) W1 99 99 ty 92 1 W.heap.size (i) dl dc ⟨a, 0, none⟩ 1 1 _ 92 news Tryz.underlying99 hsz hg1 (by rw [hnl, show Nat.min 1 dl = 1 from Nat.min_eq_left hm]) (news_at (W := W1) ha1 _ _ (by simp)) (by simp [hZl, hxl, hnl]; omega) hn1
    rw [this, hW2]
    try simp
  have hg2 : W2.heap[W.heap.size]? = some (.cells ((xs.take (i * 1) ++ Z).take (i * 1) ++ news ++ (xs.take (i * 1) ++ Z).drop (i * 1 + news.length)).toArray 92) := by rw [hW2]; exact heap_put_at _ _ _ (lt_of_heap hg1)
  have hr2 : ∀ j u, xs[j]? = some u → W2.cell? ((⟨r, 0, none⟩ : Addr).add j) = some u := fun j u hu => by
    have e : W2.heap[r]? = W.heap[r]? := by rw [hW2, heap_put_other _ _ _ _ (by omega), hW1, heap_alloc_other _ _ _ (by exact hrl)]; rfl
    rw [World.cell?_of_block (w := W)]
    · exact hcx j u hu
    · have : ((⟨r, 0, none⟩ : Addr).add j).block = r := by unfold Addr.add; split <;> rfl
      rw [this]; exact e
  have hd2 : ∀ j u, (xs.drop (i * 1))[j]? = some u → W2.drew.cell? ((⟨r, i, none⟩ : Addr).add j) = some u := fun j u hu => by
    rw [List.getElem?_drop] at hu
    have := hr2 _ u hu
    have e : (⟨r, i, none⟩ : Addr).add j = (⟨r, 0, none⟩ : Addr).add (i * 1 + j) := by rw [add_none, add_none, Nat.zero_add]; try (rw [Nat.mul_one])
    rw [e]; exact this
  have hdl : (xs.drop (i * 1)).length = (n - i) * 1 := by rw [List.length_drop, hxl]; omega
  obtain ⟨W3, hW3⟩ : ∃ W3, W3 = put W2.drew W.heap.size (.cells (((xs.take (i * 1) ++ Z).take (i * 1) ++ news ++ (xs.take (i * 1) ++ Z).drop (i * 1 + news.length)).take (i * 1 + 1) ++ xs.drop (i * 1) ++ ((xs.take (i * 1) ++ Z).take (i * 1) ++ news ++ (xs.take (i * 1) ++ Z).drop (i * 1 + news.length)).drop (i * 1 + 1 + (xs.drop (i * 1)).length)).toArray 92) := ⟨_, rfl⟩
  have hcp2 : ∀ ty dl dc sl sc, Nat.min sl dl = n - i → (Builtin.copy_ #[99, 99] ty #[.slice (some ⟨W.heap.size, i + 1, none⟩) dl dc, .slice (some ⟨r, i, none⟩) sl sc]).run Tryz.prog W2.drew = .ok (goInt (Nat.min sl dl)) W3 := fun ty dl dc sl sc hm => by
    have := run_copy_many (P := Tryz.prog) W2.drew 99 99 ty 92 1 W.heap.size (i + 1) dl dc ⟨r, i, none⟩ sl sc _ 92 (xs.drop (i * 1)) Tryz.underlying99 hsz (by exact hg2) (by rw [hdl, hm]) hd2 (by rw [hdl]; simp [hZl, hxl, hnl]; omega) (fun u hu => h1 u (List.mem_of_mem_drop hu))
    rw [this, hW3]
    congr 3
    first | rfl | (congr 1; first | rfl | omega) | simp [Nat.add_mul]
  have hfin : Row W3 92 1 (.slice (some ⟨W.heap.size, 0, none⟩) (n + 1) cap') (n + 1) (xs.take (i * 1) ++ news ++ xs.drop (i * 1)) := by
    refine ⟨by simp [hxl, hnl]; omega, .inr ⟨W.heap.size, cap', _, rfl, Nat.zero_le _, by rw [hW3]; exact heap_put_at _ _ _ (lt_of_heap hg2), hc1, by unfold maxLen; omega, by simp [hZl, hxl, hnl]; omega, ?_⟩⟩
    have := ins_new xs Z news (i * 1) (n * 1) 1 hxl (by omega) hnl (by rw [hZl]; omega)
    rw [← this]
    simp only [Nat.add_mul, Nat.one_mul]
  have hch : Chg (fun k => k = r) W W3 := by
    have c1 : Chg (fun k => k = r) W W1 := by rw [hW1]; exact ((Chg.refl (fun k => k = r) W).drew).alloc _
    have c2 : Chg (fun k => k = r) W W2 := by rw [hW2]; exact c1.put (fun h => by omega) _
    rw [hW3]
    exact c2.drew.put (fun h => by omega) _
  have H4 := hid (show ∀ k, k < W.heap.size → blk (.slice (some ⟨W.heap.size, 0, none⟩) (n + 1) cap') k ≤ one r k from fun k hk => by rw [blk_at _ _ _ _ _ none]; unfold one; rw [if_neg (by omega)]; omega)
  have H2 := hid hfin
  have H3 := hid hch
  have hzl : W.heap.size = W.heap.size := rfl
  generalize W.heap.size = G at *
  clear hfin hch hd2 hr2 hg2 hg1 ha1 hW1 hW2 hW3 hZ hZl hcx ht1 hi ha h1 hn1 hzl hxl hdl
  have HM := hid (show Nat.min (n - i) (n - i) = n - i from Nat.min_self _)
  have HM2 : 1 ≤ n + 1 - i := by omega
  go_enter Tryz.func91, Tryz.ntmps91
  go_wp2_with (first | (at_builtin; refine wpList_append2_run (by rfl) _ _ _ _ (by rfl) _ _ (by rfl) (by rfl) _ _ hrun1 ?_) | (with_reducible refine wpList_copy_run (by rfl) _ _ _ (by rfl) _ _ (by rfl) (by rfl) _ _ (hcp1 _ _ _ HM2) ?_))
  have hw1 : IntKind.i64.wrap ((i : Int) + 1) = (i : Int) + 1 := by rw [IntKind.wrap_i64]; omega
  have hb1 : (0 : Int) ≤ (i : Int) + 1 := by omega
  have htn : ((i : Int) + 1).toNat = i + 1 := by omega
  have hb2 : ¬ (cap' = i + 1) := by omega
  have hb3 : (i : Int) + 1 ≤ (n : Int) + 1 := by omega
  have hb4 : ¬ (cap = i) := by omega
  have hb5 : (i : Int) ≤ (n : Int) := by omega
  go_region_law (refine step_copy_run (by rfl) _ _ _ (by rfl) _ _ (by simp [Act.eval, Act.put]) (by simp [Act.eval, Act.put]) _ _ (hcp2 _ (n - i) (cap' - (i + 1)) (n - i) (cap - i) HM.out) ?_)
  clear hw1 hb1 htn hb2 hb3
  go_wp2
  go_ret
  exact ⟨_, rfl, H2.out, H3.out, H4.out⟩
end Go.Proofs.YthknenhcnpgkcaaGreat

/- Contracts of package slices at items and at pointers to nodes: Delete, Clone. -/
namespace Go.Proofs.YthknenhcnpgkcaaGreat
set_option linter.unusedVariables false
set_option linter.unusedSimpArgs false
open Go.RowKit
theorem row_open {W : World} {e : TypeId} {size r n cap : Nat} {xs : List Value} (hi : Row W e size (.slice (some ⟨r, 0, none⟩) n cap) n xs) : ∃ cur : Array Value, cap ≤ maxLen ∧ n ≤ cap ∧ W.heap[r]? = some (.cells cur e) ∧ cur.size = cap * size ∧ cur.toList.take (n * size) = xs := by
  rcases hi.2 with ⟨h, _⟩ | ⟨g, c, cur, hv, _, hh, hnc, hm, hc, ht⟩
  · cases h
  · injection hv with h2 _ h3
    injection h2 with h2
    obtain rfl : r = g := congrArg Addr.block h2
    subst h3
    exact ⟨cur, hm, hnc, hh, hc, ht⟩
theorem Row.some_of {W : World} {e : TypeId} {size n : Nat} {v : Value} {xs : List Value} (hi : Row W e size v n xs) (hn : 0 < n) : ∃ r cap, v = .slice (some ⟨r, 0, none⟩) n cap := by
  obtain ⟨r, cap, h, _, _⟩ := World.ownsRow.form hi hn
  exact ⟨r, cap, h⟩
theorem del_cells (L Z : List Value) (a b : List Value) (k : Nat) (h : (a ++ b).length = k) (R : List Value) (hL : L = a ++ b ++ R) : (L.take k ++ Z ++ L.drop (k + Z.length)).take k = a ++ b := by
  subst hL
  rw [List.append_assoc (List.take k _), List.take_left' (by rw [List.length_take, List.length_append]; omega)]
  exact List.take_left' h
theorem append_row {P : Program} (W : World) (t ty e : TypeId) (i : TypeInfo) (z : Value) (size bytes : Nat) (ht : P.underlying t = some (.slice e)) (hi : P.info? e = some i) (hz : i.zero = some z)
    (hsize : i.size = size) (hby : i.bytes = bytes) (hzs : z.cells.size = size) (hsz : 0 < size) (v : Value) (n : Nat) (xs : List Value) (h : Row W e size v n xs) (sv : Value) (m : Nat) (news : List Value) (hs : Src W size sv m news)
    (h63 : n + m ≤ maxLen) (hbytes : (n + m) * bytes ≤ 140737488355328) :
    ∃ v' W', (Builtin.append_ #[t, t] ty #[v, sv]).run P W = .ok v' W' ∧ Row W' e size v' (n + m) (xs ++ news) ∧ Chg (fun k => blk v k ≠ 0) W W' ∧ (∀ k, k < W.heap.size → blk v' k ≤ blk v k) := by
  obtain ⟨hl, h1, hs⟩ := hs
  rcases hs with ⟨rfl, rfl⟩ | ⟨a, c, rfl, hc⟩
  · obtain rfl : news = [] := List.eq_nil_of_length_eq_zero (by omega)
    exact ⟨v, W, run_append_owned_none (P := P) W 0 t ty e i size ht hi v n xs h, by simpa using h, Chg.refl _ _, fun k _ => Nat.le_refl _⟩
  · obtain ⟨v', W', hrun, hown, hgrow, _, hw⟩ := run_append_own_at (P := P) W 0 t ty e i z size bytes ht hi hz hsize hby hzs hsz v n xs h a m c news hl hc h1 h63 hbytes (Nat.zero_le _)
    refine ⟨v', W', hrun, hown, (Chg.of_grown hgrow).mono fun k _ hk => by unfold blk; rw [if_pos hk]; omega, fun k hk => ?_⟩
    rcases hw with h | h
    · unfold blk; rw [h]; exact Nat.le_refl _
    · have : blk v' k = 0 := by unfold blk; rw [if_neg (by rw [h]; intro e; have := Option.some.inj e; omega)]
      omega
theorem Row.src {W : World} {e : TypeId} {size n : Nat} {v : Value} {xs : List Value} (h : Row W e size v n xs) (h1 : ∀ u ∈ xs, u.oneCell' = true) : Src W size v n xs := by
  refine ⟨h.1, h1, ?_⟩
  rcases h.2 with ⟨rfl, rfl⟩ | ⟨g, cap, cur, rfl, _⟩
  · exact .inl ⟨rfl, rfl⟩
  · exact .inr ⟨⟨g, 0, none⟩, cap, rfl, World.ownsRow.cells h rfl⟩
theorem Src.chg {W W' : World} {size m : Nat} {sv : Value} {news : List Value} (h : Src W size sv m news) (hh : ∀ a c, sv = .slice (some a) m c → 0 < m → W'.heap[a.block]? = W.heap[a.block]?) (hs : 0 < size) : Src W' size sv m news := by
  refine ⟨h.1, h.2.1, h.2.2.imp id ?_⟩
  rintro ⟨a, c, rfl, hc⟩
  refine ⟨a, c, rfl, fun j u hu => ?_⟩
  have hm : 0 < m := by
    rcases Nat.eq_zero_or_pos m with e | e
    · have h1 := h.1
      rw [e, Nat.zero_mul] at h1
      have := List.eq_nil_of_length_eq_zero h1
      rw [this] at hu; cases hu
    · exact e
  rw [World.cell?_of_block (w := W)]
  · exact hc j u hu
  · have : (a.add j).block = a.block := by unfold Addr.add; split <;> rfl
    rw [this]; exact hh a c rfl hm
set_option maxRecDepth 100000 in
set_option maxHeartbeats 4000000 in
theorem clone_item (W : World) (v : Value) (n : Nat) (xs : List Value) (hs : Src W 2 v n xs) (hn : n ≤ 1000) :
    Calls Tryz.prog 92 #[v] W fun en W' => ∃ cv, en = .returned cv ∧ Row W' 59 2 cv n xs ∧ Below W.heap.size W W' ∧ (∀ k, k < W.heap.size → blk cv k = 0) := by
  have q := fun (w : World) (a : Option Addr) (n c n' c' : Nat) => Lib.run_eql_slice_nil (P := Tryz.prog) w 22 _ a n c n' c' Tryz.underlying22
  rcases hs.2.2 with ⟨rfl, rfl⟩ | ⟨a, c, rfl, hc⟩
  · obtain rfl : xs = [] := List.eq_nil_of_length_eq_zero (by rw [hs.1, Nat.zero_mul])
    go_enter Tryz.func92, Tryz.ntmps92
    go_wp2
    go_ret
    exact ⟨_, rfl, World.ownsRow_nil _ _ _ _, Below.refl _ _, fun k _ => by simp⟩
  · obtain ⟨i0, hi0, hz0, hz1, hz2⟩ := info_parts item_info
    have hm := World.ownsRow_made W #[] 0 (base := 0) (e := 59) (size := 2) (Nat.zero_le _) (by unfold maxLen; omega) (by simp)
    obtain ⟨v', W1, hrun, hrow, hch, hold⟩ := append_row (P := Tryz.prog) (W.alloc (.cells #[] 59)) 22 22 59 i0 _ 2 _ Tryz.underlying22 hi0 hz0 hz1 hz2 rfl (by omega) _ 0 [] hm _ n xs (hs.heap ((Below.refl _ W).alloc (Nat.le_refl _) _)) (by unfold maxLen; omega) (by omega)
    have H1 := hid hrow
    have H2 := hid (show Below W.heap.size W W1 from ((Below.refl _ W).alloc (Nat.le_refl _) _).trans (hch.below (by simp) (fun k hk => by rw [blk_at _ _ _ _ _ none] at hk; exact Nat.le_of_eq (one_ne hk).symm)))
    have H3 := hid (show ∀ k, k < W.heap.size → blk v' k = 0 from fun k hk => by
      have := hold k (by simp; omega)
      rw [blk_at _ _ _ _ _ none] at this
      unfold one at this; rw [if_neg (by omega)] at this; omega)
    clear hrow hch hold hs hc hm
    go_enter Tryz.func92, Tryz.ntmps92
    go_wp2_with (first | (at_builtin; refine wpList_append_run (by rfl) _ _ _ (by rfl) _ _ (by rfl) (by rfl) _ _ hrun ?_))
    go_ret
    exact ⟨_, rfl, by simpa using H1.out, H2.out, H3.out⟩
set_option maxRecDepth 100000 in
set_option maxHeartbeats 4000000 in
theorem clone_ptr (W : World) (v : Value) (n : Nat) (xs : List Value) (hs : Src W 1 v n xs) (hn : n ≤ 1000) :
    Calls Tryz.prog 93 #[v] W fun en W' => ∃ cv, en = .returned cv ∧ Row W' 92 1 cv n xs ∧ Below W.heap.size W W' ∧ (∀ k, k < W.heap.size → blk cv k = 0) := by
  have q := fun (w : World) (a : Option Addr) (n c n' c' : Nat) => Lib.run_eql_slice_nil (P := Tryz.prog) w 99 _ a n c n' c' Tryz.underlying99
  rcases hs.2.2 with ⟨rfl, rfl⟩ | ⟨a, c, rfl, hc⟩
  · obtain rfl : xs = [] := List.eq_nil_of_length_eq_zero (by rw [hs.1, Nat.zero_mul])
    go_enter Tryz.func93, Tryz.ntmps93
    go_wp2
    go_ret
    exact ⟨_, rfl, World.ownsRow_nil _ _ _ _, Below.refl _ _, fun k _ => by simp⟩
  · obtain ⟨i0, hi0, hz0, hz1, hz2⟩ := info_parts ptr_info
    have hm := World.ownsRow_made W #[] 0 (base := 0) (e := 92) (size := 1) (Nat.zero_le _) (by unfold maxLen; omega) (by simp)
    obtain ⟨v', W1, hrun, hrow, hch, hold⟩ := append_row (P := Tryz.prog) (W.alloc (.cells #[] 92)) 99 99 92 i0 _ 1 _ Tryz.underlying99 hi0 hz0 hz1 hz2 rfl (by omega) _ 0 [] hm _ n xs (hs.heap ((Below.refl _ W).alloc (Nat.le_refl _) _)) (by unfold maxLen; omega) (by omega)
    have H1 := hid hrow
    have H2 := hid (show Below W.heap.size W W1 from ((Below.refl _ W).alloc (Nat.le_refl _) _).trans (hch.below (by simp) (fun k hk => by rw [blk_at _ _ _ _ _ none] at hk; exact Nat.le_of_eq (one_ne hk).symm)))
    have H3 := hid (show ∀ k, k < W.heap.size → blk v' k = 0 from fun k hk => by
      have := hold k (by simp; omega)
      rw [blk_at _ _ _ _ _ none] at this
      unfold one at this; rw [if_neg (by omega)] at this; omega)
    clear hrow hch hold hs hc hm
    go_enter Tryz.func93, Tryz.ntmps93
    go_wp2_with (first | (at_builtin; refine wpList_append_run (by rfl) _ _ _ (by rfl) _ _ (by rfl) (by rfl) _ _ hrun ?_))
    go_ret
    exact ⟨_, rfl, by simpa using H1.out, H2.out, H3.out⟩
end Go.Proofs.YthknenhcnpgkcaaGreat

/- Contracts of package slices at items and at pointers to nodes: Grow, Concat. -/
namespace Go.Proofs.YthknenhcnpgkcaaGreat
open Go.RowKit
theorem Src.slice {W : World} {size m : Nat} {sv : Value} {news : List Value} (h : Src W size sv m news) : ∃ ao c, sv = .slice ao m c := by
  rcases h.2.2 with ⟨rfl, rfl⟩ | ⟨a, c, rfl, _⟩
  · exact ⟨_, _, rfl⟩
  · exact ⟨_, _, rfl⟩
/-- One more append onto a row that the call made itself. -/
theorem append_new {P : Program} (W0 W : World) (t ty e : TypeId) (i : TypeInfo) (z : Value) (size bytes : Nat) (ht : P.underlying t = some (.slice e)) (hi : P.info? e = some i) (hz : i.zero = some z)
    (hsize : i.size = size) (hby : i.bytes = bytes) (hzs : z.cells.size = size) (hsz : 0 < size) (v : Value) (n : Nat) (xs : List Value) (h : Row W e size v n xs) (hb : Below W0.heap.size W0 W) (hf : ∀ k, k < W0.heap.size → blk v k = 0) (sv : Value) (m : Nat) (news : List Value) (hs : Src W0 size sv m news)
    (h63 : n + m ≤ maxLen) (hbytes : (n + m) * bytes ≤ 140737488355328) :
    ∃ v' W', (Builtin.append_ #[t, t] ty #[v, sv]).run P W = .ok v' W' ∧ Row W' e size v' (n + m) (xs ++ news) ∧ Below W0.heap.size W0 W' ∧ (∀ k, k < W0.heap.size → blk v' k = 0) := by
  obtain ⟨v', W', h1, h2, h3, h4⟩ := append_row (P := P) W t ty e i z size bytes ht hi hz hsize hby hzs hsz v n xs h sv m news (hs.heap hb) h63 hbytes
  refine ⟨v', W', h1, h2, hb.trans (h3.below hb.size (fun k hk => ?_)), fun k hk => ?_⟩
  · rcases Nat.lt_or_ge k W0.heap.size with hl | hl
    · exact absurd (hf k hl) hk
    · exact hl
  · have := h4 k (Nat.lt_of_lt_of_le hk hb.size)
    rw [hf k hk] at this; omega
end Go.Proofs.YthknenhcnpgkcaaGreat
