/- Texts of this proof, merged: Cpy. -/
import Derived.Test.YthknenhcnpgkcaaGreatMh
import Derived.Deep.RegionLaw
import Derived.Deep.AppendLies
import Derived.Deep.DeepCutAuto
/- Contracts of package shelf: copied. -/
namespace Go.Proofs.YthknenhcnpgkcaaGreat
set_option linter.unusedVariables false
set_option linter.unusedSimpArgs false
open Go.RowKit
theorem step_app {P : Program} {w : World} {ops : Array Oper} {o : Oper} {a : Act} {K : Act → World → Prop} {Q : Exit → Act → World → Prop} {E : Prop} {R : Value → World → Prop} (hgd : o.guard = none) (s x : Operand) (t : TypeId)
    (ho : o.op = .call { callee := .builtin .append, args := #[s, x], argTypes := #[t, t] }) (v sv : Value) (hs : a.eval s = v) (hx : a.eval x = sv)
    (hrun : ∃ v' w', (Builtin.append_ #[t, t] o.type #[v, sv]).run P w = .ok v' w' ∧ R v' w') (h : ∀ v' w', R v' w' → K (a.put o.dst v') w') :
    if Region.wanted o (yielded ops a.tmps) = true then Oper.wp P o a w K Q else E := by
  obtain ⟨v', w', hr, hR⟩ := hrun
  exact step_append_run hgd s x t ho v sv hs hx v' w' hr (h v' w' hR)
theorem ptr_app {W W2 : World} {v : Value} {n : Nat} {ys : List Kid} (h : Row W 92 1 v n (ptrs ys)) (hb : Below W.heap.size W W2) (hn : n ≤ 1000) {S : Nat} {x : Kid} (hS : W2.heap[S]? = some (.cells #[.pointer (some ⟨x.p, 0, none⟩)] 92)) :
    ∃ v' W', (Builtin.append_ #[99, 99] 99 #[v, .slice (some ⟨S, 0, none⟩) 1 1]).run Tryz.prog W2 = .ok v' W' ∧ (∃ ao c, v' = .slice ao (n + 1) c) ∧ Row W' 92 1 v' (n + 1) (ptrs (ys ++ [x])) ∧ Chg (fun k => blk v k ≠ 0) W W' ∧ ∀ k, k < W.heap.size → blk v' k ≤ blk v k := by
  obtain ⟨i0, hi0, hz0, hz1, hz2⟩ := info_parts ptr_info
  obtain ⟨v', W', hrun, hrow, hch, hle⟩ := append_row (P := Tryz.prog) W2 99 99 92 i0 _ 1 8 Tryz.underlying99 hi0 hz0 hz1 hz2 rfl (by omega) v n _ (owns_below h hb) (.slice (some ⟨S, 0, none⟩) 1 1) 1 [.pointer (some ⟨x.p, 0, none⟩)]
    ⟨rfl, by simp [Value.oneCell'], .inr ⟨⟨S, 0, none⟩, 1, rfl, World.news_of_block hS⟩⟩ (by unfold maxLen; omega) (by omega)
  obtain ⟨ao, c, rfl⟩ := owns_slice hrow
  refine ⟨_, W', hrun, ⟨ao, c, rfl⟩, ?_, (Chg.of_below (S := fun k => blk v k ≠ 0) hb).trans hch (fun _ _ h => h), fun k hk => hle k (Nat.lt_of_lt_of_le hk hb.size)⟩
  have : ptrs (ys ++ [x]) = ptrs ys ++ [.pointer (some ⟨x.p, 0, none⟩)] := by simp [ptrs, Kid.v]
  rw [this]
  exact hrow
theorem weave_map {α β : Type} (X : α → List It) (Y : β → List It) : ∀ (l : List α) (r : List β) (its : List It), l.map X = r.map Y → weave X l its = weave Y r its
  | [], [], its, _ => by cases its <;> rfl
  | [], _ :: _, _, h => by cases h
  | _ :: _, [], _, h => by cases h
  | [a], [b], [], h => by simpa [weave] using h
  | a :: l, b :: r, i :: its, h => by
    injection h with h1 h2
    simp only [weave]
    rw [h1, weave_map X Y l r its h2]
  | a :: a2 :: l, [b], [], h => by simp at h
  | [a], b :: b2 :: r, [], h => by simp at h
  | a :: a2 :: l, b :: b2 :: r, [], h => rfl
/-- A copy on its way: the items, and the copies of the first n children. -/
def Part (d : Nat) (W : World) (its : List It) (kids : List Kid) (o : Nat) (v' : Value) (n : Nat) (wr : World) : Prop :=
  ∃ bo bc ks, wr.heap[o]? = some (.cells #[v', .slice bo n bc] 101) ∧ Row wr 59 2 v' its.length (flat its) ∧ Row wr 92 1 (.slice bo n bc) n (ptrs ks) ∧ ks.map Kid.xs = (kids.take n).map Kid.xs ∧ (∀ r ∈ ks, At (d - 1) 3 wr r) ∧
    (∀ k, one o k + (blk v' k + (blk (.slice bo n bc) k + sumC ks k)) ≤ 1) ∧ (∀ k, k < W.heap.size → one o k + (blk v' k + (blk (.slice bo n bc) k + sumC ks k)) = 0) ∧ Below W.heap.size W wr
/-- A copy of q. -/
def CopyOf (d lo : Nat) (W : World) (q : Kid) (e : Ending) (W' : World) : Prop :=
  ∃ q' : Kid, e = .returned (.pointer (some ⟨q'.p, 0, none⟩)) ∧ At d lo W' q' ∧ q'.xs = q.xs ∧ (∀ k, k < W.heap.size → q'.c k = 0) ∧ Below W.heap.size W W'
theorem Part.done {d lo : Nat} {W wr : World} {its : List It} {kids : List Kid} {o n : Nat} {v' : Value} {q : Kid} (h : Part d W its kids o v' n wr) (hn : kids.length = n) (hG : Good d W its kids q.xs) (h1 : lo ≤ its.length) (h2 : its.length ≤ 6) : CopyOf d lo W q (.returned (.pointer (some ⟨o, 0, none⟩))) wr := by
  obtain ⟨bo, bc, ks, a1, a2, a3, a4, a5, a6, a7, a8⟩ := h
  rw [List.take_of_length_le (by omega)] at a4
  have hl : ks.length = n := by have := congrArg List.length a4; simp at this; omega
  refine ⟨⟨o, q.xs, fun k => one o k + (blk v' k + (blk (.slice bo n bc) k + sumC ks k))⟩, rfl, At.of_node (iv := v') (bv := .slice bo n bc) (its := its) (kids := ks) ⟨a1, a2, by rw [hl]; exact a3, fun k => rfl, a6⟩ h1 h2 ?_, rfl, a7, a8⟩
  cases d with
  | zero =>
    obtain ⟨rfl, e⟩ := hG
    exact ⟨List.eq_nil_of_length_eq_zero (by rw [hl, ← hn]; rfl), e⟩
  | succ d =>
    obtain ⟨e1, e2, _⟩ := hG
    exact ⟨by omega, by rw [e2]; exact (weave_map _ _ _ _ _ a4).symm, a5⟩
theorem take_snoc2 {α : Type} {L : List α} {k : Nat} {x : α} (h : L[k]? = some x) : L.take (k + 1) = L.take k ++ [x] := by
  obtain ⟨hl, rfl⟩ := List.getElem?_eq_some_iff.1 h
  exact List.take_succ_eq_append_getElem hl
theorem part_next {d : Nat} {W wr X W5 W6 : World} {its : List It} {kids ks : List Kid} {o i : Nat} {v' : Value} {b5 a6 : Option Addr} {c5 c6 : Nat} {s s5 : Kid}
    (a1 : wr.heap[o]? = some (.cells #[v', .slice b5 i c5] 101)) (a2 : Row wr 59 2 v' its.length (flat its)) (a3 : Row wr 92 1 (.slice b5 i c5) i (ptrs ks)) (a4 : ks.map Kid.xs = (kids.take i).map Kid.xs) (a5 : ∀ r ∈ ks, At d 3 wr r)
    (a6' : ∀ k, one o k + (blk v' k + (blk (.slice b5 i c5) k + sumC ks k)) ≤ 1) (a7 : ∀ k, k < W.heap.size → one o k + (blk v' k + (blk (.slice b5 i c5) k + sumC ks k)) = 0) (a8 : Below W.heap.size W wr) (hs : kids[i]? = some s)
    (hX : Below wr.heap.size wr X) (q1 : At d 3 W5 s5) (q2 : s5.xs = s.xs) (q3 : ∀ k, k < X.heap.size → s5.c k = 0) (q4 : Below X.heap.size X W5)
    (hr6 : Row W6 92 1 (.slice a6 (i + 1) c6) (i + 1) (ptrs (ks ++ [s5]))) (hc6 : Chg (fun k => blk (.slice b5 i c5) k ≠ 0) W5 W6) (ho6 : ∀ k, k < W5.heap.size → blk (.slice a6 (i + 1) c6) k ≤ blk (.slice b5 i c5) k) (hoW : W.heap.size ≤ o) :
    Part (d + 1) W its kids o v' (i + 1) (put W6 o (.cells #[v', .slice a6 (i + 1) c6] 101)) := by
  have hb5 : Below wr.heap.size wr W5 := hX.trans (q4.mono hX.size)
  have hol := lt_of_heap a1
  have hol5 : o < W5.heap.size := Nat.lt_of_lt_of_le hol hb5.size
  have hol6 : o < W6.heap.size := Nat.lt_of_lt_of_le hol5 hc6.size
  have hkeep : ∀ k, k < W5.heap.size → blk (.slice b5 i c5) k = 0 → k ≠ o → (put W6 o (.cells #[v', .slice a6 (i + 1) c6] 101)).heap[k]? = W5.heap[k]? := fun k hk h0 hne => (heap_put_other _ _ _ _ (by omega)).trans (hc6.block k hk (by omega))
  have hkeep2 : ∀ k, k < wr.heap.size → blk (.slice b5 i c5) k = 0 → k ≠ o → (put W6 o (.cells #[v', .slice a6 (i + 1) c6] 101)).heap[k]? = wr.heap[k]? := fun k hk h0 hne => (hkeep k (Nat.lt_of_lt_of_le hk hb5.size) h0 hne).trans (hb5.block k hk)
  have hno : ∀ k, one o k = 0 → k ≠ o := fun k hk e => by subst e; rw [one_self] at hk; omega
  have hz : ∀ k, wr.heap.size ≤ k → one o k + (blk v' k + (blk (.slice b5 i c5) k + sumC ks k)) = 0 := fun k hk => by
    have h1 : one o k = 0 := by unfold one; rw [if_neg (by omega)]
    have h2 : blk v' k = 0 := by
      rcases Nat.eq_zero_or_pos (blk v' k) with e | e
      · exact e
      · have := a2.lt (k := k) (by omega); omega
    have h3 : blk (.slice b5 i c5) k = 0 := by
      rcases Nat.eq_zero_or_pos (blk (.slice b5 i c5) k) with e | e
      · exact e
      · have := a3.lt (k := k) (by omega); omega
    have h4 : sumC ks k = 0 := by
      rcases Nat.eq_zero_or_pos (sumC ks k) with e | e
      · exact e
      · obtain ⟨r, hr, h⟩ := sumC_ne (l := ks) (k := k) (by omega)
        have := (a5 r hr).lt k h; omega
    omega
  have hs5 : ∀ k, s5.c k ≠ 0 → wr.heap.size ≤ k := fun k hk => by
    rcases Nat.lt_or_ge k X.heap.size with h | h
    · exact absurd (q3 k h) hk
    · have := hX.size; omega
  have hsum : ∀ k, sumC (ks ++ [s5]) k = sumC ks k + s5.c k := fun k => by rw [sumC_append]; simp [sumC]
  refine ⟨a6, c6, ks ++ [s5], heap_put_at _ _ _ hol6, a2.keep fun k hk => hkeep2 k (a2.lt hk) (by have := a6' k; omega) (hno k (by have := a6' k; omega)), hr6.keep fun k hk => heap_put_other _ _ _ _ fun e => ?_, ?_, fun r hr => ?_, fun k => ?_, fun k hk => ?_, ?_⟩
  · have hko : k = o := by first | exact e | exact e.symm
    rw [hko] at hk
    have h1 := ho6 o hol5; have h2 := a6' o; rw [one_self] at h2; omega
  · rw [List.map_append, a4, take_snoc2 hs, List.map_append]
    simp [q2]
  · rcases List.mem_append.1 hr with hr | hr
    · refine (a5 r hr).keep fun k hk => ?_
      have h1 := sumC_mem hr k
      have h2 := a6' k
      exact hkeep2 k ((a5 r hr).lt k hk) (by omega) (hno k (by omega))
    · obtain rfl : r = s5 := by simpa using hr
      refine q1.keep fun k hk => ?_
      have h1 := hz k (hs5 k hk)
      exact hkeep k (q1.lt k hk) (by omega) (hno k (by omega))
  · rw [hsum]
    rcases Nat.lt_or_ge k wr.heap.size with h | h
    · have h1 : s5.c k = 0 := by
        rcases Nat.eq_zero_or_pos (s5.c k) with e | e
        · exact e
        · have := hs5 k (by omega); omega
      have := ho6 k (Nat.lt_of_lt_of_le h hb5.size)
      have := a6' k
      omega
    · have h0 := hz k h
      rcases Nat.lt_or_ge k W5.heap.size with h' | h'
      · have := ho6 k h'; have := q1.le k; omega
      · have h1 : s5.c k = 0 := by
          rcases Nat.eq_zero_or_pos (s5.c k) with e | e
          · exact e
          · have := q1.lt k (by omega); omega
        have := blk_le (.slice a6 (i + 1) c6) k
        omega
  · rw [hsum]
    have h : k < wr.heap.size := Nat.lt_of_lt_of_le hk a8.size
    have h1 : s5.c k = 0 := by
      rcases Nat.eq_zero_or_pos (s5.c k) with e | e
      · exact e
      · have := hs5 k (by omega); omega
    have := ho6 k (Nat.lt_of_lt_of_le h hb5.size)
    have := a7 k hk
    omega
  · refine a8.trans ((hb5.mono a8.size).trans (Chg.below (S := fun k => W.heap.size ≤ k) ((hc6.mono fun k _ hk => ?_).put (fun _ => hoW) _) (Nat.le_trans a8.size hb5.size) fun _ h => h))
    rcases Nat.lt_or_ge k W.heap.size with h | h
    · have := a7 k h; omega
    · exact h
end Go.Proofs.YthknenhcnpgkcaaGreat
