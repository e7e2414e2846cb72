import Derived.Test.YthknenhcnpgkcaaSeqO
/- A list of items in a block, to which a body appends (as IntsIn in XVwE). -/
namespace Go.Proofs.Ythknenhcnpgkcaa
open Go.RowKit Go.Shelf
attribute [local go_sem] Oper.semAt_some
set_option linter.unusedVariables false
set_option linter.unusedSimpArgs false
theorem wpListIn_append_ex {F : Fence} {n : Nat} {P : Program} {w : World} {ops : Array Oper} {rest : List Oper} {o : Oper} {a : Act} {Q : Exit → Act → World → Prop} {R : Value → World → Prop} (hg : o.guard = none) (s x : Operand) (t : TypeId)
    (hop : o.op = Op.call { callee := Callee.builtin Builtin.append, args := #[s, x], argTypes := #[t, t] }) (v sv : Value) (hs : a.eval s = v) (hx : a.eval x = sv)
    (hrun : ∃ v' w', (Builtin.append_ #[t, t] o.type #[v, sv]).run P w = .ok v' w' ∧ R v' w') (h : ∀ v' w', R v' w' → wpListIn F n P ops Q rest (a.put o.dst v') w') : wpListIn F n P ops Q (o :: rest) a w := by
  obtain ⟨v', w', hrun, hR⟩ := hrun
  refine wpListIn_plain hg fun K hK' => ?_
  unfold Oper.wpIn
  refine ⟨?_, ?_⟩
  · simp [Oper.about, hop, resolve, Target.leads, Sem.run_pure]
  · rw [Oper.semAt_plain F _ _ (by rw [hop]; intro c hc'; cases hc')]
    simp [execOp, hop, resolve, invoke, builtin, hs, hx, hrun, Result.andThen]
    exact hK' _ _ (h v' w' hR)
/-- Block A holds a list of items xs, in a row behind it. -/
structure ItemsIn (A : Nat) (xs : List It) (W : World) (v : Value) : Prop where
  heap : W.heap[A]? = some (.cells #[v] 28)
  row : W.ownsRow (A + 1) 34 2 v xs.length (flat xs)
theorem ItemsIn.ownOf {A : Nat} {xs : List It} {W : World} {v : Value} (h : ItemsIn A xs W v) : Go.Proofs.Ythknenhcnpgkcaa.ownOf A W = v.ownBlock := by
  unfold Go.Proofs.Ythknenhcnpgkcaa.ownOf
  rw [h.heap]
  rfl
/-- One more number. -/
theorem ItemsIn.app {A : Nat} {xs : List It} {W W2 : World} {v : Value} (h : ItemsIn A xs W v) (hb : Below W.heap.size W W2) (hl : xs.length ≤ 900) (x : It) {S : Nat} (hS : W2.heap[S]? = some (.cells #[.string x.1, .string x.2] 34)) :
    ∃ v' w', (Builtin.append_ #[28, 28] 28 #[v, .slice (some ⟨S, 0, none⟩) 1 1]).run Try.prog W2 = .ok v' w' ∧ w'.heap[A]? = some (.cells #[v] 28) ∧ A < w'.heap.size ∧ ItemsIn A (xs ++ [x]) (put w' A (.cells #[v'] 28)) v' ∧ KpO A W (put w' A (.cells #[v'] 28)) ∧ Below A W (put w' A (.cells #[v'] 28)) ∧ ∀ B, KeepsFrom B W (put w' A (.cells #[v'] 28)) := by
  obtain ⟨i0, hi0, hz0, hz1, hz2⟩ := info_parts item_info
  have hA := lt_of_heap h.heap
  have hrow := owns_below h.row hb
  obtain ⟨v', w', hrun, hown, hgrow, _, hw⟩ := run_append_own_at (P := Try.prog) W2 (A + 1) 28 28 34 i0 _ 2 32 Try.underlying28 hi0 hz0 hz1 hz2 rfl (by omega) v xs.length _ hrow ⟨S, 0, none⟩ 1 1 [.string x.1, .string x.2] rfl (World.news_of_block hS) (by simp [Value.oneCell']) (by unfold maxLen; omega) (by omega) (by have := hb.size; omega)
  have hz := hb.size
  have hg := hgrow.size
  have hvA : v.ownBlock ≠ some A := fun e => by have := (hrow.lt A e).1; omega
  have hv'A : v'.ownBlock ≠ some A := fun e => by have := (hown.lt A e).1; omega
  have hAl : A < w'.heap.size := by omega
  have hAb : w'.heap[A]? = some (.cells #[v] 28) := by rw [hgrow.block A (by omega) (fun e => hvA e.symm), hb.block A hA]; exact h.heap
  have hin : ItemsIn A (xs ++ [x]) (put w' A (.cells #[v'] 28)) v' := ⟨heap_put_at _ _ _ hAl, owns_put (by rw [List.length_append, flat_append]; exact hown) hv'A _⟩
  refine ⟨v', w', hrun, hAb, hAl, hin, ⟨by rw [size_put]; omega, fun k o hk _ hne _ hn => ?_, fun k hk e => ?_, fun k cs t fr hk ht hne _ => ?_⟩, ?_, fun B => ⟨by rw [size_put]; omega, fun k o _ hk hc => ?_⟩⟩
  · rw [h.ownOf] at hn
    rw [heap_put_other _ _ _ _ hne, hgrow.block k (by have := lt_of_heap hk; omega) (fun e => hn e.symm), hb.block k (lt_of_heap hk)]
  · rw [hin.ownOf] at e
    rw [h.ownOf]
    rcases hw with f | f
    · rw [← f]; exact e
    · rw [f] at e
      have := Option.some.inj e
      omega
  · have hkl := lt_of_heap hk
    rw [heap_put_other _ _ _ _ hne, hgrow.block k (by omega) (fun e => ?_), hb.block k hkl]
    rcases h.row.2 with ⟨rfl, _⟩ | ⟨r, cap, cur, rfl, _, hh, _⟩
    · simp [Value.ownBlock] at e
    · have : r = k := by simpa [Value.ownBlock] using e.symm
      subst this
      rw [hh] at hk; cases hk; exact ht rfl
  · exact Below.atPut ((hb.mono (by omega)).grown hgrow (by omega) (fun k hk => by have := (hrow.lt k hk).1; omega)) (Nat.le_refl _) _
  · have hkl := lt_of_heap hk
    have hne : k ≠ A := fun e => by subst e; rw [h.heap] at hk; cases hk; cases hc
    rw [heap_put_other _ _ _ _ hne, hgrow.block k (by omega) (fun e => ?_), hb.block k hkl]
    · exact hk
    · rcases h.row.2 with ⟨rfl, _⟩ | ⟨r, cap, cur, rfl, _, hh, _⟩
      · simp [Value.ownBlock] at e
      · have : r = k := by simpa [Value.ownBlock] using e.symm
        subst this
        rw [hh] at hk; cases hk; cases hc
theorem ItemsIn.from {α : Type} (f : α → It) (A B : Nat) : OwnFrom B (fun (pre : List α) X => ∃ v, ItemsIn A (pre.map f) X v) := fun s X Y row ⟨v, h⟩ hg hr => by
  refine ⟨v, (grownBy_keeps_cells hg (fun r e => (hr r e).2) h.heap rfl).trans h.heap, owns_heap h.row fun k hk => ?_⟩
  rcases h.row.2 with ⟨rfl, _⟩ | ⟨r, cap, cur, rfl, _, hh, _⟩
  · simp [Value.ownBlock] at hk
  · have : r = k := by simpa [Value.ownBlock] using hk
    subst this
    exact grownBy_keeps_cells hg (fun r e => (hr r e).2) hh rfl
end Go.Proofs.Ythknenhcnpgkcaa
