import Derived.Test.YthknenhcnpgkcaaSl2
/- Contracts of package slices at items and at pointers to nodes: Grow, Concat. -/
namespace Go.Proofs.Ythknenhcnpgkcaa
open Go.RowKit
theorem Src.slice {W : World} {size m : Nat} {sv : Value} {news : List Value} (h : Src W size sv m news) : ∃ ao c, sv = .slice ao m c := by
  rcases h.2.2 with ⟨rfl, rfl⟩ | ⟨a, c, rfl, _⟩
  · exact ⟨_, _, rfl⟩
  · exact ⟨_, _, rfl⟩
set_option maxRecDepth 100000 in
set_option maxHeartbeats 4000000 in
theorem grow_item (W : World) (m : Nat) (hm : m ≤ 3000) (k : Int) (hk : k = m) :
    Calls Try.prog 156 #[.slice none 0 0, .int .i64 k] W fun en W' => ∃ cv, en = .returned cv ∧ Row W' 34 2 cv 0 [] ∧ Below W.heap.size W W' ∧ (∀ k, k < W.heap.size → blk cv k = 0) := by
  subst hk
  rcases Nat.eq_zero_or_pos m with rfl | h0
  · go_enter Try.func156, Try.ntmps156
    go_wp2
    go_ret
    exact ⟨_, rfl, World.ownsRow_nil _ _ _ _, Below.refl _ _, fun k _ => by simp⟩
  · obtain ⟨i0, hi0, hz0, hz1, hz2⟩ := info_parts item_info
    have hrun := Lib.run_append_nil_zeros (P := Try.prog) W 28 3 28 34 i0 _ .i64 .i64 Try.underlying28 Try.underlying3 hi0 hz0 m h0 (by omega) (by omega) (by rw [hz2]; omega)
    have hge := grownCap_ge W m 0 34
    have hle := grownCap_le_maxLen W m 0 34 (by unfold maxLen; omega)
    generalize grownCap W m 0 34 = cap at hrun hge hle
    obtain ⟨W1, hW1⟩ : ∃ W1, W1 = W.drew.alloc (.cells (Builtin.zeroCells (Value.cells (.agg #[.string ⟨#[]⟩, .string ⟨#[]⟩])) m ++ Builtin.zeroCells (Value.cells (.agg #[.string ⟨#[]⟩, .string ⟨#[]⟩])) (cap - m)) 34) := ⟨_, rfl⟩
    rw [← hW1] at hrun
    have H1 := hid (show Row W1 34 2 (.slice (some ⟨W.heap.size, 0, none⟩) 0 cap) 0 [] by
      refine ⟨by simp, .inr ⟨W.heap.size, cap, _, rfl, Nat.zero_le _, by rw [hW1]; exact heap_alloc_at _ _ _ rfl, Nat.zero_le _, hle, ?_, by simp⟩⟩
      rw [Array.size_append, size_zeroCells, size_zeroCells, show (Value.cells (.agg #[.string ⟨#[]⟩, .string ⟨#[]⟩])).size = 2 from rfl]; omega)
    have H2 := hid (show Below W.heap.size W W1 by rw [hW1]; exact ((Below.refl _ W).drew).alloc (Nat.le_refl _) _)
    have H3 := hid (show ∀ k, k < W.heap.size → blk (.slice (some ⟨W.heap.size, 0, none⟩) 0 cap) k = 0 from fun k hk => by rw [blk_at _ _ _ _ _ none]; unfold one; rw [if_neg (by omega)])
    clear hW1
    have hb : (0 : Int) < (m : Int) := by omega
    go_enter Try.func156, Try.ntmps156
    go_wp2_with (first | (at_builtin; refine wpList_append2_run (by rfl) _ _ _ _ (by rfl) _ _ (by rfl) (by rfl) _ _ hrun ?_))
    go_ret
    exact ⟨_, rfl, H1.out, H2.out, H3.out⟩
set_option maxRecDepth 100000 in
set_option maxHeartbeats 4000000 in
theorem grow_ptr (W : World) (m : Nat) (hm : m ≤ 3000) (k : Int) (hk : k = m) :
    Calls Try.prog 157 #[.slice none 0 0, .int .i64 k] W fun en W' => ∃ cv, en = .returned cv ∧ Row W' 110 1 cv 0 [] ∧ Below W.heap.size W W' ∧ (∀ k, k < W.heap.size → blk cv k = 0) := by
  subst hk
  rcases Nat.eq_zero_or_pos m with rfl | h0
  · go_enter Try.func157, Try.ntmps157
    go_wp2
    go_ret
    exact ⟨_, rfl, World.ownsRow_nil _ _ _ _, Below.refl _ _, fun k _ => by simp⟩
  · obtain ⟨i0, hi0, hz0, hz1, hz2⟩ := info_parts ptr_info
    have hrun := Lib.run_append_nil_zeros (P := Try.prog) W 116 3 116 110 i0 _ .i64 .i64 Try.underlying116 Try.underlying3 hi0 hz0 m h0 (by omega) (by omega) (by rw [hz2]; omega)
    have hge := grownCap_ge W m 0 110
    have hle := grownCap_le_maxLen W m 0 110 (by unfold maxLen; omega)
    generalize grownCap W m 0 110 = cap at hrun hge hle
    obtain ⟨W1, hW1⟩ : ∃ W1, W1 = W.drew.alloc (.cells (Builtin.zeroCells (Value.cells (.pointer none)) m ++ Builtin.zeroCells (Value.cells (.pointer none)) (cap - m)) 110) := ⟨_, rfl⟩
    rw [← hW1] at hrun
    have H1 := hid (show Row W1 110 1 (.slice (some ⟨W.heap.size, 0, none⟩) 0 cap) 0 [] by
      refine ⟨by simp, .inr ⟨W.heap.size, cap, _, rfl, Nat.zero_le _, by rw [hW1]; exact heap_alloc_at _ _ _ rfl, Nat.zero_le _, hle, ?_, by simp⟩⟩
      rw [Array.size_append, size_zeroCells, size_zeroCells, show (Value.cells (.pointer none)).size = 1 from rfl]; omega)
    have H2 := hid (show Below W.heap.size W W1 by rw [hW1]; exact ((Below.refl _ W).drew).alloc (Nat.le_refl _) _)
    have H3 := hid (show ∀ k, k < W.heap.size → blk (.slice (some ⟨W.heap.size, 0, none⟩) 0 cap) k = 0 from fun k hk => by rw [blk_at _ _ _ _ _ none]; unfold one; rw [if_neg (by omega)])
    clear hW1
    have hb : (0 : Int) < (m : Int) := by omega
    go_enter Try.func157, Try.ntmps157
    go_wp2_with (first | (at_builtin; refine wpList_append2_run (by rfl) _ _ _ _ (by rfl) _ _ (by rfl) (by rfl) _ _ hrun ?_))
    go_ret
    exact ⟨_, rfl, H1.out, H2.out, H3.out⟩
/-- One more append onto a row that the call made itself. -/
theorem append_new {P : Program} (W0 W : World) (t ty e : TypeId) (i : TypeInfo) (z : Value) (size bytes : Nat) (ht : P.underlying t = some (.slice e)) (hi : P.info? e = some i) (hz : i.zero = some z)
    (hsize : i.size = size) (hby : i.bytes = bytes) (hzs : z.cells.size = size) (hsz : 0 < size) (v : Value) (n : Nat) (xs : List Value) (h : Row W e size v n xs) (hb : Below W0.heap.size W0 W) (hf : ∀ k, k < W0.heap.size → blk v k = 0) (sv : Value) (m : Nat) (news : List Value) (hs : Src W0 size sv m news)
    (h63 : n + m ≤ maxLen) (hbytes : (n + m) * bytes ≤ 140737488355328) :
    ∃ v' W', (Builtin.append_ #[t, t] ty #[v, sv]).run P W = .ok v' W' ∧ Row W' e size v' (n + m) (xs ++ news) ∧ Below W0.heap.size W0 W' ∧ (∀ k, k < W0.heap.size → blk v' k = 0) := by
  obtain ⟨v', W', h1, h2, h3, h4⟩ := append_row (P := P) W t ty e i z size bytes ht hi hz hsize hby hzs hsz v n xs h sv m news (hs.heap hb) h63 hbytes
  refine ⟨v', W', h1, h2, hb.trans (h3.below hb.size (fun k hk => ?_)), fun k hk => ?_⟩
  · rcases Nat.lt_or_ge k W0.heap.size with hl | hl
    · exact absurd (hf k hl) hk
    · exact hl
  · have := h4 k (Nat.lt_of_lt_of_le hk hb.size)
    rw [hf k hk] at this; omega
set_option maxRecDepth 100000 in
set_option maxHeartbeats 4000000 in
theorem concat_ptr (W : World) (S : Nat) (v1 v2 : Value) (n1 n2 : Nat) (xs1 xs2 : List Value) (hS : W.heap[S]? = some (.cells #[v1, v2] 116)) (h1 : Src W 1 v1 n1 xs1) (h2 : Src W 1 v2 n2 xs2) (hn1 : n1 ≤ 1000) (hn2 : n2 ≤ 1000) :
    Calls Try.prog 152 #[.slice (some ⟨S, 0, none⟩) 2 2] W fun en W' => ∃ cv, en = .returned cv ∧ Row W' 110 1 cv (n1 + n2) (xs1 ++ xs2) ∧ Below W.heap.size W W' ∧ (∀ k, k < W.heap.size → blk cv k = 0) := by
  obtain ⟨i0, hi0, hz0, hz1, hz2⟩ := info_parts ptr_info
  obtain ⟨o1, c1, rfl⟩ := h1.slice
  obtain ⟨o2, c2, rfl⟩ := h2.slice
  have hc := fun i => cell_of_row W S i _ _ (0, 0) hS
  have hSl := lt_of_heap hS
  have P1 := hid h1
  have P2 := hid h2
  clear h1 h2 hS
  go_enter Try.func152, Try.ntmps152
  go_wp2_with (first | ((with_reducible refine wp_loop_rounds 3 ?_)) | ((with_reducible refine rounds_step ?_)))
  (((with_reducible refine (grow_ptr _ (n1 + n2) (by omega) _ (by omega)).mono ?_)); rintro _ W1 ⟨u0, rfl, hr0, hb0, hf0⟩)
  obtain ⟨a0, k0, rfl⟩ := owns_slice hr0
  have hd0 := fun i => (hb0.cell (p := ⟨S, i, none⟩) hSl).trans (hc i)
  obtain ⟨u1, W2, hrun1, hr1, hb1, hf1⟩ := append_new (P := Try.prog) W W1 116 116 110 i0 _ 1 _ Try.underlying116 hi0 hz0 hz1 hz2 rfl (by omega) _ _ _ hr0 hb0 hf0 _ n1 xs1 P1.out (by unfold maxLen; omega) (by omega)
  simp only [Nat.zero_add, List.nil_append] at hrun1 hr1
  obtain ⟨a1, k1, rfl⟩ := owns_slice hr1
  have hd1 := fun i => (hb1.cell (p := ⟨S, i, none⟩) hSl).trans (hc i)
  obtain ⟨u2, W3, hrun2, hr2, hb2, hf2⟩ := append_new (P := Try.prog) W W2 116 116 110 i0 _ 1 _ Try.underlying116 hi0 hz0 hz1 hz2 rfl (by omega) _ _ _ hr1 hb1 hf1 _ n2 xs2 P2.out (by unfold maxLen; omega) (by omega)
  try simp only [Nat.zero_add, List.nil_append] at hrun2 hr2
  obtain ⟨a2, k2, rfl⟩ := owns_slice hr2
  have hd2 := fun i => (hb2.cell (p := ⟨S, i, none⟩) hSl).trans (hc i)
  have H1 := hid hr2
  have H2 := hid hb2
  have H3 := hid hf2
  clear hr0 hb0 hf0 hr1 hb1 hf1 hr2 hb2 hf2
  go_wp2_with (first | ((with_reducible refine wp_loop_rounds 3 ?_)) | ((with_reducible refine rounds_step ?_)) | (at_builtin; refine wpList_append_run (by rfl) _ _ _ (by rfl) _ _ (by rfl) (by rfl) _ _ hrun1 ?_; clear hrun1) | (at_builtin; refine wpList_append_run (by rfl) _ _ _ (by rfl) _ _ (by rfl) (by rfl) _ _ hrun2 ?_; clear hrun2))
  go_ret
  exact ⟨_, rfl, H1.out, H2.out, H3.out⟩
set_option maxRecDepth 100000 in
set_option maxHeartbeats 4000000 in
theorem concat_item (W : World) (S : Nat) (v1 v2 v3 : Value) (n1 n2 n3 : Nat) (xs1 xs2 xs3 : List Value) (hS : W.heap[S]? = some (.cells #[v1, v2, v3] 28)) (h1 : Src W 2 v1 n1 xs1) (h2 : Src W 2 v2 n2 xs2) (h3 : Src W 2 v3 n3 xs3) (hn1 : n1 ≤ 1000) (hn2 : n2 ≤ 1000) (hn3 : n3 ≤ 1000) :
    Calls Try.prog 151 #[.slice (some ⟨S, 0, none⟩) 3 3] W fun en W' => ∃ cv, en = .returned cv ∧ Row W' 34 2 cv (n1 + n2 + n3) (xs1 ++ xs2 ++ xs3) ∧ Below W.heap.size W W' ∧ (∀ k, k < W.heap.size → blk cv k = 0) := by
  obtain ⟨i0, hi0, hz0, hz1, hz2⟩ := info_parts item_info
  obtain ⟨o1, c1, rfl⟩ := h1.slice
  obtain ⟨o2, c2, rfl⟩ := h2.slice
  obtain ⟨o3, c3, rfl⟩ := h3.slice
  have hc := fun i => cell_of_row W S i _ _ (0, 0) hS
  have hSl := lt_of_heap hS
  have P1 := hid h1
  have P2 := hid h2
  have P3 := hid h3
  clear h1 h2 h3 hS
  go_enter Try.func151, Try.ntmps151
  go_wp2_with (first | ((with_reducible refine wp_loop_rounds 4 ?_)) | ((with_reducible refine rounds_step ?_)))
  (((with_reducible refine (grow_item _ (n1 + n2 + n3) (by omega) _ (by omega)).mono ?_)); rintro _ W1 ⟨u0, rfl, hr0, hb0, hf0⟩)
  obtain ⟨a0, k0, rfl⟩ := owns_slice hr0
  have hd0 := fun i => (hb0.cell (p := ⟨S, i, none⟩) hSl).trans (hc i)
  obtain ⟨u1, W2, hrun1, hr1, hb1, hf1⟩ := append_new (P := Try.prog) W W1 28 28 34 i0 _ 2 _ Try.underlying28 hi0 hz0 hz1 hz2 rfl (by omega) _ _ _ hr0 hb0 hf0 _ n1 xs1 P1.out (by unfold maxLen; omega) (by omega)
  simp only [Nat.zero_add, List.nil_append] at hrun1 hr1
  obtain ⟨a1, k1, rfl⟩ := owns_slice hr1
  have hd1 := fun i => (hb1.cell (p := ⟨S, i, none⟩) hSl).trans (hc i)
  obtain ⟨u2, W3, hrun2, hr2, hb2, hf2⟩ := append_new (P := Try.prog) W W2 28 28 34 i0 _ 2 _ Try.underlying28 hi0 hz0 hz1 hz2 rfl (by omega) _ _ _ hr1 hb1 hf1 _ n2 xs2 P2.out (by unfold maxLen; omega) (by omega)
  try simp only [Nat.zero_add, List.nil_append] at hrun2 hr2
  obtain ⟨a2, k2, rfl⟩ := owns_slice hr2
  have hd2 := fun i => (hb2.cell (p := ⟨S, i, none⟩) hSl).trans (hc i)
  obtain ⟨u3, W4, hrun3, hr3, hb3, hf3⟩ := append_new (P := Try.prog) W W3 28 28 34 i0 _ 2 _ Try.underlying28 hi0 hz0 hz1 hz2 rfl (by omega) _ _ _ hr2 hb2 hf2 _ n3 xs3 P3.out (by unfold maxLen; omega) (by omega)
  try simp only [Nat.zero_add, List.nil_append] at hrun3 hr3
  obtain ⟨a3, k3, rfl⟩ := owns_slice hr3
  have hd3 := fun i => (hb3.cell (p := ⟨S, i, none⟩) hSl).trans (hc i)
  have H1 := hid hr3
  have H2 := hid hb3
  have H3 := hid hf3
  clear hr0 hb0 hf0 hr1 hb1 hf1 hr2 hb2 hf2 hr3 hb3 hf3
  go_wp2_with (first | ((with_reducible refine wp_loop_rounds 4 ?_)) | ((with_reducible refine rounds_step ?_)) | (at_builtin; refine wpList_append_run (by rfl) _ _ _ (by rfl) _ _ (by rfl) (by rfl) _ _ hrun1 ?_; clear hrun1) | (at_builtin; refine wpList_append_run (by rfl) _ _ _ (by rfl) _ _ (by rfl) (by rfl) _ _ hrun2 ?_; clear hrun2) | (at_builtin; refine wpList_append_run (by rfl) _ _ _ (by rfl) _ _ (by rfl) (by rfl) _ _ hrun3 ?_; clear hrun3))
  go_ret
  exact ⟨_, rfl, H1.out, H2.out, H3.out⟩
end Go.Proofs.Ythknenhcnpgkcaa
