import Derived.Test.YthknenhcnpgkcaaShA
/- Contracts of package shelf: Del of the only item there is. -/
namespace Go.Proofs.Ythknenhcnpgkcaa
open Go.RowKit
set_option linter.unusedVariables false
set_option linter.unusedSimpArgs false
theorem delete_one (W : World) (r cap : Nat) (xs : List Value) (hi : Row W 34 2 (.slice (some ⟨r, 0, none⟩) 1 cap) 1 xs) (h1 : ∀ u ∈ xs, u.oneCell' = true) :
    Calls Try.prog 122 #[.slice (some ⟨r, 0, none⟩) 1 cap, .int .i64 0, .int .i64 1] W fun en W' => en = .returned (.slice (some ⟨r, 0, none⟩) 0 cap) ∧ Row W' 34 2 (.slice (some ⟨r, 0, none⟩) 0 cap) 0 [] ∧ Chg (fun k => k = r) W W' := by
  refine (delete_item W r cap 0 xs hi (by omega) h1 0 (Nat.le_refl _)).mono ?_
  rintro en W' ⟨rfl, h2, h3⟩
  refine ⟨rfl, ?_, h3⟩
  have : xs.take (0 * 2) ++ xs.drop ((0 + 1) * 2) = [] := by
    have := hi.1
    simp
    omega
  rw [this] at h2
  exact h2
set_option maxRecDepth 100000 in
set_option maxHeartbeats 4000000 in
theorem ndel_one {W : World} {q : Kid} {k v : ByteArray} (h : At 0 1 W q) (hx : q.xs = [(k, v)]) (hk : k.size ≤ maxLen) :
    Calls Try.prog 83 #[.pointer (some ⟨q.p, 0, none⟩), .string k] W fun en W' => en = .returned (.bool true) ∧ ∃ ri ci bo bc, W'.heap[q.p]? = some (.cells #[.slice ri 0 ci, .slice bo 0 bc] 118) ∧ Chg (fun j => q.c j ≠ 0) W W' := by
  have hlt := h.lt
  obtain ⟨iv, bv, hN, _, _⟩ := h
  rw [hx] at hN
  obtain ⟨bo, bc, rfl⟩ := owns_slice hN.below
  obtain ⟨ri, ci, rfl, _, hri⟩ := World.ownsRow.form hN.items (by simp)
  have hon := hid (fun W' (hB : Below W.heap.size W W') => hN.on hlt hB)
  have hpl := hN.lt
  have hcnt := hN.cnt q.p
  have hle := hN.le q.p
  rw [one_self] at hcnt
  have hpr : q.p ≠ ri := fun e => by rw [blk_at ri 0 _ ci q.p none, e, one_self] at hcnt; rw [e] at hle; omega
  have hqc : ∀ j, one q.p j ≠ 0 ∨ j = ri → q.c j ≠ 0 := fun j hj => by
    have e1 := hN.cnt j
    rcases hj with hj | rfl
    · omega
    · rw [blk_at j 0 _ ci j none, one_self] at e1; omega
  have HQC := hid hqc
  have HN := hid hN
  have HP := hid (show placeOf k [(k, v)] = (0, true) by simp [placeOf])
  have HS := hid (show ∀ i ∈ [(k, v)], i.1.size ≤ maxLen from fun i hi => by rw [List.mem_singleton] at hi; subst hi; exact hk)
  have hc := fun i => cell_of_row W q.p i _ _ (0, 0) hN.heap
  clear hN hcnt hle hlt hqc hx
  go_enter Try.func83, Try.ntmps83
  go_wp2_with fail
  (((with_reducible refine (place_is _ q.p _ _ [(k, v)] k (hon.out _ (by repeat' (first | exact Below.refl _ _ | with_reducible assumption | omega | with_reducible refine below_put_fut ?_ ?_ _ | with_reducible refine below_to_put ?_ | with_reducible refine Below.alloc ?_ ?_ _ | with_reducible refine Below.fut ?_ ?_ _ | with_reducible refine Below.drew ?_ | with_reducible refine Below.setCell ?_ ?_ _ | with_reducible refine Below.atPut ?_ ?_ _ | (simp [go_sem]; done) | (simp [go_sem]; omega)))).heap (hon.out _ (by repeat' (first | exact Below.refl _ _ | with_reducible assumption | omega | with_reducible refine below_put_fut ?_ ?_ _ | with_reducible refine below_to_put ?_ | with_reducible refine Below.alloc ?_ ?_ _ | with_reducible refine Below.fut ?_ ?_ _ | with_reducible refine Below.drew ?_ | with_reducible refine Below.setCell ?_ ?_ _ | with_reducible refine Below.atPut ?_ ?_ _ | (simp [go_sem]; done) | (simp [go_sem]; omega)))).items (by simp) hk HS.out 0 true HP.out).mono ?_)); rintro _ _ ⟨rfl, u1, rfl⟩)
  go_wp2_with fail
  (((with_reducible refine (leaf_is _ q.p _ _ _ _ (hon.out _ (by repeat' (first | exact Below.refl _ _ | with_reducible assumption | omega | with_reducible refine below_put_fut ?_ ?_ _ | with_reducible refine below_to_put ?_ | with_reducible refine Below.alloc ?_ ?_ _ | with_reducible refine Below.fut ?_ ?_ _ | with_reducible refine Below.drew ?_ | with_reducible refine Below.setCell ?_ ?_ _ | with_reducible refine Below.atPut ?_ ?_ _ | (simp [go_sem]; done) | (simp [go_sem]; omega)))).heap true rfl).mono ?_)); rintro _ _ ⟨rfl, u2, rfl⟩)
  go_wp2_with fail
  (((with_reducible refine (delete_one _ ri ci _ (hon.out _ (by repeat' (first | exact Below.refl _ _ | with_reducible assumption | omega | with_reducible refine below_put_fut ?_ ?_ _ | with_reducible refine below_to_put ?_ | with_reducible refine Below.alloc ?_ ?_ _ | with_reducible refine Below.fut ?_ ?_ _ | with_reducible refine Below.drew ?_ | with_reducible refine Below.setCell ?_ ?_ _ | with_reducible refine Below.atPut ?_ ?_ _ | (simp [go_sem]; done) | (simp [go_sem]; omega)))).items (flat_one _)).mono ?_)); rintro _ W5 ⟨rfl, hr5, hc5⟩)
  have hb2 : Below W.heap.size W u2.val := (by repeat' (first | exact Below.refl _ _ | with_reducible assumption | omega | with_reducible refine below_put_fut ?_ ?_ _ | with_reducible refine below_to_put ?_ | with_reducible refine Below.alloc ?_ ?_ _ | with_reducible refine Below.fut ?_ ?_ _ | with_reducible refine Below.drew ?_ | with_reducible refine Below.setCell ?_ ?_ _ | with_reducible refine Below.atPut ?_ ?_ _ | (simp [go_sem]; done) | (simp [go_sem]; omega)))
  have hp5 : W5.heap[q.p]? = some (.cells #[.slice (some ⟨ri, 0, none⟩) 1 ci, .slice bo 0 bc] 118) := (hc5.block q.p (Nat.lt_of_lt_of_le hpl hb2.size) hpr).trans (hon.out _ hb2).heap
  have HC5 := hid ((Chg.of_below (S := fun j => q.c j ≠ 0) hb2).trans hc5 (fun j _ hj => HQC.out j (.inr hj)))
  have hl5 := lt_of_heap hp5
  clear hr5 hc5 hb2
  rw [← put_self hp5]
  clear hp5
  go_wp2_with fail
  go_ret
  exact ⟨rfl, _, _, _, _, heap_put_at _ _ _ hl5, HC5.out.put (fun _ => HQC.out _ (.inl (by rw [one_self]; omega))) _⟩
set_option maxRecDepth 100000 in
set_option maxHeartbeats 4000000 in
theorem del_one {B : Nat} {w0 : World} {most : Int} {k v : ByteArray} {g : Nat} {W : World} (h : Sh B w0 most [(k, v)] g W) (hk : k.size ≤ maxLen) :
    Calls Try.prog 51 #[.pointer (some ⟨g, 0, none⟩), .string k] W fun e W' => e = .returned (.bool true) ∧ Sh B w0 most [] g W' := by
  have hB := h.ge
  obtain ⟨h1, c, top, h2, h3⟩ := h
  have hgh := h2.heap
  have hgl := lt_of_heap hgh
  have hg1 := h2.g_ne
  cases h2.top with
  | none hx hc => cases hx
  | some d q ha hx hgc hc =>
    have hcount := ha.count (Nat.le_refl _)
    rw [hx] at hcount
    have hd : d = 0 := by
      rcases Nat.eq_zero_or_pos d with e | e
      · exact e
      · have : 4 ^ 1 ≤ 4 ^ d := Nat.pow_le_pow_right (by omega) e
        simp at hcount
        omega
    subst hd
    have hdel := fun (X : World) (hb : Below W.heap.size W X) => ndel_one (v := v) (ha.keep fun j hj => hb.block j (ha.lt j hj)) hx hk (W := X)
    have HDEL := hid hdel
    have H1 := hid h1
    have H3 := hid h3
    have HC := hid hc
    have HGC := hid hgc
    have hcg := fun i => cell_of_row W g i _ _ (0, 0) hgh
    have HGH := hid hgh
    have hqg : q.p ≠ g := fun e => by
      obtain ⟨iv, bv, hN, _⟩ := ha
      have e1 := hN.cnt q.p
      rw [one_self, e, hgc] at e1; omega
    have hpl : q.p < W.heap.size := by obtain ⟨iv, bv, hN, _⟩ := ha; exact hN.lt
    clear h1 h2 h3 hc hgc hdel hgh hx ha hcount hg1
    go_enter Try.func51, Try.ntmps51
    go_wp2_with fail
    refine (HDEL.out _ (Below.refl _ _)).mono ?_
    rintro _ W5 ⟨rfl, ri, ci, bo, bc, hp5, hc5⟩
    have hg5 : W5.heap[g]? = some (shfObj most 1 (.pointer (some ⟨q.p, 0, none⟩))) := (hc5.block g hgl (by rw [HGC.out]; simp)).trans HGH.out
    have hl5 := lt_of_heap hg5
    have hlp5 := lt_of_heap hp5
    have hcp := fun i => cell_of_row W5 q.p i _ _ (0, 0) hp5
    have hne : ((⟨q.p, 0, none⟩ : Addr) = ⟨g, 0, none⟩) = False := by simp only [Addr.mk.injEq, eq_iff_iff, iff_false]; omega
    have HC5 := hid hc5
    have HP5 := hid hp5
    clear hc5 hp5
    rw [← put_self hg5]
    clear hg5
    go_wp2_with fail
    (((with_reducible refine (leaf_is _ q.p _ _ _ _ ((heap_put_other _ _ _ _ hqg).trans HP5.out) true rfl).mono ?_)); rintro _ _ ⟨rfl, u6, rfl⟩)
    have hg6 : u6.val.heap[g]? = some (shfObj most 0 (.pointer (some ⟨q.p, 0, none⟩))) := (u6.below.block g (by rw [size_put]; exact hl5)).trans (heap_put_at _ _ _ hl5)
    have hl6 := lt_of_heap hg6
    have HC6 := hid (show Chg (fun j => c j ≠ 0) W u6.val from ((HC5.out.mono fun j _ hj => by rw [HC.out]; omega).put (fun _ => by rw [HC.out, one_self]; omega) _).trans (Chg.of_below (S := fun j => c j ≠ 0) u6.below) (fun _ _ h => h))
    generalize u6.val = W6 at hg6 hl6 HC6 ⊢
    rw [← put_self hg6]
    clear hg6 hcp
    go_wp2_with fail
    go_ret
    refine ⟨rfl, Sh.upd (xs := [(k, v)]) (c := c) H1.out H3.out hB (shf_new most (heap_put_at _ _ _ hl6)) ⟨HC6.out.put (fun _ => by rw [HC.out, one_self]; omega) _, one_le g, fun j _ => by rw [HC.out]; omega⟩⟩
set_option maxRecDepth 100000 in
set_option maxHeartbeats 4000000 in
theorem del_nil {B : Nat} {w0 : World} {most : Int} {g : Nat} {W : World} (h : Sh B w0 most [] g W) (k : ByteArray) :
    Calls Try.prog 51 #[.pointer (some ⟨g, 0, none⟩), .string k] W (Makes (.bool false) W) := by
  obtain ⟨h1, c, top, h2, h3⟩ := h
  have hgh := h2.heap
  have hgl := lt_of_heap hgh
  cases h2.top with
  | none hx hc =>
    have hcg := fun i => cell_of_row W g i _ _ (0, 0) hgh
    clear h2 hgh
    go_enter Try.func51, Try.ntmps51
    go_wp2_with (first | (((with_reducible refine wp_region_fut_lit (by kernel_rfl) (by kernel_rfl) ?_)); (repeat (go_big_quiet_step ((first | fail)))); ((with_reducible refine wpQuiet_nil ?_)); rintro _ ⟨u, rfl⟩; (try (rw [Fut.put_self u (by first | assumption | (simp [go_sem]; done) | (simp [go_sem]; omega))]))))
    go_ret; exact .mk (by first | rfl | (simp; done) | (simp; omega)) (by repeat' (first | exact Below.refl _ _ | with_reducible assumption | omega | with_reducible refine below_put_fut ?_ ?_ _ | with_reducible refine below_to_put ?_ | with_reducible refine Below.alloc ?_ ?_ _ | with_reducible refine Below.fut ?_ ?_ _ | with_reducible refine Below.drew ?_ | with_reducible refine Below.setCell ?_ ?_ _ | with_reducible refine Below.atPut ?_ ?_ _ | (simp [go_sem]; done) | (simp [go_sem]; omega)))
  | some d q ha hx hgc hc =>
    have := ha.count (Nat.le_refl _)
    have hp : 1 ≤ 4 ^ d := Nat.pow_pos (by omega)
    rw [hx] at this
    simp at this
end Go.Proofs.Ythknenhcnpgkcaa
