/- The book of lists: an append in either way (in place, or into a row made anew), the lists that are kept. -/
import Derived.Test.YthknenhcnpgkcaaGreatMh
namespace Go.Proofs.YthknenhcnpgkcaaGreat
open Go.RowKit
set_option linter.unusedVariables false
set_option linter.unusedSimpArgs false
/-- The beginning of a row. -/
theorem Row.ahead {W : World} {e : TypeId} {size n c m : Nat} {ao : Option Addr} {xs : List Value} (h : Row W e size (.slice ao n c) n xs) (hm : m ≤ n) : Row W e size (.slice ao m c) m (xs.take (m * size)) := by
  have hk : m * size ≤ n * size := Nat.mul_le_mul_right _ hm
  refine ⟨by rw [List.length_take, h.1]; exact Nat.min_eq_left hk, ?_⟩
  rcases h.2 with ⟨e1, e2⟩ | ⟨g, cap, cur, e1, h1, h2, h3, h4, h5, h6⟩
  · obtain rfl : m = 0 := by omega
    cases e1
    exact .inl ⟨rfl, rfl⟩
  · cases e1
    exact .inr ⟨g, c, cur, rfl, h1, h2, by omega, h4, h5, by rw [← h6, List.take_take, Nat.min_eq_left hk]⟩
theorem append_two {P : Program} (W : World) (t ty e : TypeId) (i : TypeInfo) (z : Value) (size bytes : Nat) (ht : P.underlying t = some (.slice e)) (hi : P.info? e = some i) (hz : i.zero = some z)
    (hsize : i.size = size) (hby : i.bytes = bytes) (hzs : z.cells.size = size) (hsz : 0 < size) (v : Value) (n : Nat) (xs : List Value) (h : Row W e size v n xs) (sv : Value) (m : Nat) (news : List Value) (hs : Src W size sv m news)
    (h63 : n + m ≤ maxLen) (hbytes : (n + m) * bytes ≤ 140737488355328) :
    ∃ v' W', (Builtin.append_ #[t, t] ty #[v, sv]).run P W = .ok v' W' ∧ Row W' e size v' (n + m) (xs ++ news) ∧
      ((∃ ao c, v = .slice ao n c ∧ v' = .slice ao (n + m) c ∧ Chg (fun k => blk v k ≠ 0) W W') ∨ ((∀ k, k < W.heap.size → blk v' k = 0) ∧ Below W.heap.size W W')) := by
  obtain ⟨hl, h1, hs⟩ := hs
  rcases hs with ⟨rfl, rfl⟩ | ⟨a, c, rfl, hc⟩
  · obtain rfl : news = [] := List.eq_nil_of_length_eq_zero (by omega)
    obtain ⟨ao, c, rfl⟩ := owns_slice h
    exact ⟨_, W, run_append_owned_none (P := P) W 0 t ty e i size ht hi _ n xs h, by simpa using h, .inl ⟨ao, c, rfl, rfl, Chg.refl _ _⟩⟩
  · obtain ⟨v', W', hrun, hown, hgrow, _, hw⟩ := run_append_own_at (P := P) W 0 t ty e i z size bytes ht hi hz hsize hby hzs hsz v n xs h a m c news hl hc h1 h63 hbytes (Nat.zero_le _)
    rcases h.2 with ⟨e1, e2⟩ | ⟨g, cap, cur, e1, g1, g2, g3, g4, g5, g6⟩
    · subst e1
      refine ⟨v', W', hrun, hown, .inr ⟨fun k hk => ?_, ?_⟩⟩
      · unfold blk
        rw [if_neg]
        rcases hw with hw | hw <;> rw [hw]
        · simp [Value.ownBlock]
        · intro e3; have := Option.some.inj e3; omega
      · exact (Chg.of_grown hgrow).below (Nat.le_refl _) (fun k hk => by simp [Value.ownBlock] at hk)
    · subst e1
      by_cases hroom : n + m ≤ cap
      · have hi2 : i.size = size := hsize
        have hr2 := run_append_room (P := P) W t ty e i ht hi g n cap cur g2 a m c news (by rw [hi2]; exact hl) hc h1 hroom (by rw [hi2, hl, g5, ← Nat.add_mul]; exact Nat.mul_le_mul_right _ hroom)
        rw [hrun] at hr2
        injection hr2 with e3 e4
        subst e3
        exact ⟨_, W', hrun, hown, .inl ⟨some ⟨g, 0, none⟩, cap, rfl, rfl, (Chg.of_grown hgrow).mono fun k _ hk => by unfold blk; rw [if_pos hk]; omega⟩⟩
      · obtain ⟨v2, W2, hrun2, hown2, hgrow2⟩ := run_append_arg_grows (P := P) W t ty e i z size bytes ht hi hz hsize hby hzs hsz ⟨g, 0, none⟩ n cap xs h.1 (World.ownsRow.cells h rfl) a m c news hl hc (by omega) h63 hbytes
        refine ⟨v2, W2, hrun2, ⟨hown2.1, hown2.2.imp id fun ⟨g, cap, cur, h1, h2, h3⟩ => ⟨g, cap, cur, h1, Nat.zero_le _, h3⟩⟩, .inr ⟨fun k hk => ?_, ?_⟩⟩
        · unfold blk
          rw [if_neg]
          intro e3
          have := (World.ownsRow.lt hown2 k e3).1
          omega
        · exact (Chg.of_grown hgrow2).below (Nat.le_refl _) (fun k hk => by cases hk)
/-- Items: the same, of items. -/
theorem items_two {W W2 : World} {v sv : Value} {n m : Nat} {xs ys : List It} (h : Row W 59 2 v n (flat xs)) (hb : Below W.heap.size W W2) (hs : Src W2 2 sv m (flat ys)) (hn : n + m ≤ 100000) :
    ∃ v' W', (Builtin.append_ #[22, 22] 22 #[v, sv]).run Tryz.prog W2 = .ok v' W' ∧ (∃ ao c, v' = .slice ao (n + m) c) ∧ Row W' 59 2 v' (n + m) (flat (xs ++ ys)) ∧
      ((∃ ao c, v = .slice ao n c ∧ v' = .slice ao (n + m) c ∧ Chg (fun k => blk v k ≠ 0) W W') ∨ ((∀ k, k < W.heap.size → blk v' k = 0) ∧ Below W.heap.size W W')) := by
  obtain ⟨i0, hi0, hz0, hz1, hz2⟩ := info_parts item_info
  obtain ⟨v', W', hrun, hrow, hor⟩ := append_two (P := Tryz.prog) W2 22 22 59 i0 _ 2 32 Tryz.underlying22 hi0 hz0 hz1 hz2 rfl (by omega) v n _ (owns_below h hb) sv m _ hs (by unfold maxLen; omega) (by omega)
  obtain ⟨ao, c, e1⟩ := owns_slice hrow
  refine ⟨_, W', hrun, ⟨ao, c, e1⟩, by rw [flat_append]; exact hrow, hor.imp (fun ⟨ao, c, h1, h2, h3⟩ => ⟨ao, c, h1, h2, (Chg.of_below (S := fun k => blk v k ≠ 0) hb).trans h3 (fun _ _ h => h)⟩) (fun ⟨h1, h2⟩ => ⟨fun k hk => h1 k (Nat.lt_of_lt_of_le hk hb.size), hb.trans (h2.mono hb.size)⟩)⟩
end Go.Proofs.YthknenhcnpgkcaaGreat
