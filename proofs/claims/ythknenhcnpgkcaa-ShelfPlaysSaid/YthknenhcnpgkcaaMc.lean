/- Texts of this proof, merged: Cpy, Cpy2. -/
import Derived.Test.YthknenhcnpgkcaaMh
import Derived.Deep.RegionLaw
import Derived.Deep.AppendLies
import Derived.Deep.DeepCutAuto
import Derived.Test.YthknenhcnpgkcaaMo
/- Contracts of package shelf: copied. -/
namespace Go.Proofs.Ythknenhcnpgkcaa
set_option linter.unusedVariables false
set_option linter.unusedSimpArgs false
open Go.RowKit
theorem step_app {P : Program} {w : World} {ops : Array Oper} {o : Oper} {a : Act} {K : Act → World → Prop} {Q : Exit → Act → World → Prop} {E : Prop} {R : Value → World → Prop} (hgd : o.guard = none) (s x : Operand) (t : TypeId)
    (ho : o.op = .call { callee := .builtin .append, args := #[s, x], argTypes := #[t, t] }) (v sv : Value) (hs : a.eval s = v) (hx : a.eval x = sv)
    (hrun : ∃ v' w', (Builtin.append_ #[t, t] o.type #[v, sv]).run P w = .ok v' w' ∧ R v' w') (h : ∀ v' w', R v' w' → K (a.put o.dst v') w') :
    if Region.wanted o (yielded ops a.tmps) = true then Oper.wp P o a w K Q else E := by
  obtain ⟨v', w', hr, hR⟩ := hrun
  exact step_append_run hgd s x t ho v sv hs hx v' w' hr (h v' w' hR)
theorem ptr_app {W W2 : World} {v : Value} {n : Nat} {ys : List Kid} (h : Row W 110 1 v n (ptrs ys)) (hb : Below W.heap.size W W2) (hn : n ≤ 1000) {S : Nat} {x : Kid} (hS : W2.heap[S]? = some (.cells #[.pointer (some ⟨x.p, 0, none⟩)] 110)) :
    ∃ v' W', (Builtin.append_ #[116, 116] 116 #[v, .slice (some ⟨S, 0, none⟩) 1 1]).run Try.prog W2 = .ok v' W' ∧ (∃ ao c, v' = .slice ao (n + 1) c) ∧ Row W' 110 1 v' (n + 1) (ptrs (ys ++ [x])) ∧ Chg (fun k => blk v k ≠ 0) W W' ∧ ∀ k, k < W.heap.size → blk v' k ≤ blk v k := by
  obtain ⟨i0, hi0, hz0, hz1, hz2⟩ := info_parts ptr_info
  obtain ⟨v', W', hrun, hrow, hch, hle⟩ := append_row (P := Try.prog) W2 116 116 110 i0 _ 1 8 Try.underlying116 hi0 hz0 hz1 hz2 rfl (by omega) v n _ (owns_below h hb) (.slice (some ⟨S, 0, none⟩) 1 1) 1 [.pointer (some ⟨x.p, 0, none⟩)]
    ⟨rfl, by simp [Value.oneCell'], .inr ⟨⟨S, 0, none⟩, 1, rfl, World.news_of_block hS⟩⟩ (by unfold maxLen; omega) (by omega)
  obtain ⟨ao, c, rfl⟩ := owns_slice hrow
  refine ⟨_, W', hrun, ⟨ao, c, rfl⟩, ?_, (Chg.of_below (S := fun k => blk v k ≠ 0) hb).trans hch (fun _ _ h => h), fun k hk => hle k (Nat.lt_of_lt_of_le hk hb.size)⟩
  have : ptrs (ys ++ [x]) = ptrs ys ++ [.pointer (some ⟨x.p, 0, none⟩)] := by simp [ptrs, Kid.v]
  rw [this]
  exact hrow
theorem weave_map {α β : Type} (X : α → List It) (Y : β → List It) : ∀ (l : List α) (r : List β) (its : List It), l.map X = r.map Y → weave X l its = weave Y r its
  | [], [], its, _ => by cases its <;> rfl
  | [], _ :: _, _, h => by cases h
  | _ :: _, [], _, h => by cases h
  | [a], [b], [], h => by simpa [weave] using h
  | a :: l, b :: r, i :: its, h => by
    injection h with h1 h2
    simp only [weave]
    rw [h1, weave_map X Y l r its h2]
  | a :: a2 :: l, [b], [], h => by simp at h
  | [a], b :: b2 :: r, [], h => by simp at h
  | a :: a2 :: l, b :: b2 :: r, [], h => rfl
/-- A copy on its way: the items, and the copies of the first n children. -/
def Part (d : Nat) (W : World) (its : List It) (kids : List Kid) (o : Nat) (v' : Value) (n : Nat) (wr : World) : Prop :=
  ∃ bo bc ks, wr.heap[o]? = some (.cells #[v', .slice bo n bc] 118) ∧ Row wr 34 2 v' its.length (flat its) ∧ Row wr 110 1 (.slice bo n bc) n (ptrs ks) ∧ ks.map Kid.xs = (kids.take n).map Kid.xs ∧ (∀ r ∈ ks, At (d - 1) 3 wr r) ∧
    (∀ k, one o k + (blk v' k + (blk (.slice bo n bc) k + sumC ks k)) ≤ 1) ∧ (∀ k, k < W.heap.size → one o k + (blk v' k + (blk (.slice bo n bc) k + sumC ks k)) = 0) ∧ Below W.heap.size W wr
/-- A copy of q. -/
def CopyOf (d lo : Nat) (W : World) (q : Kid) (e : Ending) (W' : World) : Prop :=
  ∃ q' : Kid, e = .returned (.pointer (some ⟨q'.p, 0, none⟩)) ∧ At d lo W' q' ∧ q'.xs = q.xs ∧ (∀ k, k < W.heap.size → q'.c k = 0) ∧ Below W.heap.size W W'
theorem Part.done {d lo : Nat} {W wr : World} {its : List It} {kids : List Kid} {o n : Nat} {v' : Value} {q : Kid} (h : Part d W its kids o v' n wr) (hn : kids.length = n) (hG : Good d W its kids q.xs) (h1 : lo ≤ its.length) (h2 : its.length ≤ 6) : CopyOf d lo W q (.returned (.pointer (some ⟨o, 0, none⟩))) wr := by
  obtain ⟨bo, bc, ks, a1, a2, a3, a4, a5, a6, a7, a8⟩ := h
  rw [List.take_of_length_le (by omega)] at a4
  have hl : ks.length = n := by have := congrArg List.length a4; simp at this; omega
  refine ⟨⟨o, q.xs, fun k => one o k + (blk v' k + (blk (.slice bo n bc) k + sumC ks k))⟩, rfl, At.of_node (iv := v') (bv := .slice bo n bc) (its := its) (kids := ks) ⟨a1, a2, by rw [hl]; exact a3, fun k => rfl, a6⟩ h1 h2 ?_, rfl, a7, a8⟩
  cases d with
  | zero =>
    obtain ⟨rfl, e⟩ := hG
    exact ⟨List.eq_nil_of_length_eq_zero (by rw [hl, ← hn]; rfl), e⟩
  | succ d =>
    obtain ⟨e1, e2, _⟩ := hG
    exact ⟨by omega, by rw [e2]; exact (weave_map _ _ _ _ _ a4).symm, a5⟩
theorem take_snoc2 {α : Type} {L : List α} {k : Nat} {x : α} (h : L[k]? = some x) : L.take (k + 1) = L.take k ++ [x] := by
  obtain ⟨hl, rfl⟩ := List.getElem?_eq_some_iff.1 h
  exact List.take_succ_eq_append_getElem hl
theorem part_next {d : Nat} {W wr X W5 W6 : World} {its : List It} {kids ks : List Kid} {o i : Nat} {v' : Value} {b5 a6 : Option Addr} {c5 c6 : Nat} {s s5 : Kid}
    (a1 : wr.heap[o]? = some (.cells #[v', .slice b5 i c5] 118)) (a2 : Row wr 34 2 v' its.length (flat its)) (a3 : Row wr 110 1 (.slice b5 i c5) i (ptrs ks)) (a4 : ks.map Kid.xs = (kids.take i).map Kid.xs) (a5 : ∀ r ∈ ks, At d 3 wr r)
    (a6' : ∀ k, one o k + (blk v' k + (blk (.slice b5 i c5) k + sumC ks k)) ≤ 1) (a7 : ∀ k, k < W.heap.size → one o k + (blk v' k + (blk (.slice b5 i c5) k + sumC ks k)) = 0) (a8 : Below W.heap.size W wr) (hs : kids[i]? = some s)
    (hX : Below wr.heap.size wr X) (q1 : At d 3 W5 s5) (q2 : s5.xs = s.xs) (q3 : ∀ k, k < X.heap.size → s5.c k = 0) (q4 : Below X.heap.size X W5)
    (hr6 : Row W6 110 1 (.slice a6 (i + 1) c6) (i + 1) (ptrs (ks ++ [s5]))) (hc6 : Chg (fun k => blk (.slice b5 i c5) k ≠ 0) W5 W6) (ho6 : ∀ k, k < W5.heap.size → blk (.slice a6 (i + 1) c6) k ≤ blk (.slice b5 i c5) k) (hoW : W.heap.size ≤ o) :
    Part (d + 1) W its kids o v' (i + 1) (put W6 o (.cells #[v', .slice a6 (i + 1) c6] 118)) := by
  have hb5 : Below wr.heap.size wr W5 := hX.trans (q4.mono hX.size)
  have hol := lt_of_heap a1
  have hol5 : o < W5.heap.size := Nat.lt_of_lt_of_le hol hb5.size
  have hol6 : o < W6.heap.size := Nat.lt_of_lt_of_le hol5 hc6.size
  have hkeep : ∀ k, k < W5.heap.size → blk (.slice b5 i c5) k = 0 → k ≠ o → (put W6 o (.cells #[v', .slice a6 (i + 1) c6] 118)).heap[k]? = W5.heap[k]? := fun k hk h0 hne => (heap_put_other _ _ _ _ (by omega)).trans (hc6.block k hk (by omega))
  have hkeep2 : ∀ k, k < wr.heap.size → blk (.slice b5 i c5) k = 0 → k ≠ o → (put W6 o (.cells #[v', .slice a6 (i + 1) c6] 118)).heap[k]? = wr.heap[k]? := fun k hk h0 hne => (hkeep k (Nat.lt_of_lt_of_le hk hb5.size) h0 hne).trans (hb5.block k hk)
  have hno : ∀ k, one o k = 0 → k ≠ o := fun k hk e => by subst e; rw [one_self] at hk; omega
  have hz : ∀ k, wr.heap.size ≤ k → one o k + (blk v' k + (blk (.slice b5 i c5) k + sumC ks k)) = 0 := fun k hk => by
    have h1 : one o k = 0 := by unfold one; rw [if_neg (by omega)]
    have h2 : blk v' k = 0 := by
      rcases Nat.eq_zero_or_pos (blk v' k) with e | e
      · exact e
      · have := a2.lt (k := k) (by omega); omega
    have h3 : blk (.slice b5 i c5) k = 0 := by
      rcases Nat.eq_zero_or_pos (blk (.slice b5 i c5) k) with e | e
      · exact e
      · have := a3.lt (k := k) (by omega); omega
    have h4 : sumC ks k = 0 := by
      rcases Nat.eq_zero_or_pos (sumC ks k) with e | e
      · exact e
      · obtain ⟨r, hr, h⟩ := sumC_ne (l := ks) (k := k) (by omega)
        have := (a5 r hr).lt k h; omega
    omega
  have hs5 : ∀ k, s5.c k ≠ 0 → wr.heap.size ≤ k := fun k hk => by
    rcases Nat.lt_or_ge k X.heap.size with h | h
    · exact absurd (q3 k h) hk
    · have := hX.size; omega
  have hsum : ∀ k, sumC (ks ++ [s5]) k = sumC ks k + s5.c k := fun k => by rw [sumC_append]; simp [sumC]
  refine ⟨a6, c6, ks ++ [s5], heap_put_at _ _ _ hol6, a2.keep fun k hk => hkeep2 k (a2.lt hk) (by have := a6' k; omega) (hno k (by have := a6' k; omega)), hr6.keep fun k hk => heap_put_other _ _ _ _ fun e => ?_, ?_, fun r hr => ?_, fun k => ?_, fun k hk => ?_, ?_⟩
  · have hko : k = o := by first | exact e | exact e.symm
    rw [hko] at hk
    have h1 := ho6 o hol5; have h2 := a6' o; rw [one_self] at h2; omega
  · rw [List.map_append, a4, take_snoc2 hs, List.map_append]
    simp [q2]
  · rcases List.mem_append.1 hr with hr | hr
    · refine (a5 r hr).keep fun k hk => ?_
      have h1 := sumC_mem hr k
      have h2 := a6' k
      exact hkeep2 k ((a5 r hr).lt k hk) (by omega) (hno k (by omega))
    · obtain rfl : r = s5 := by simpa using hr
      refine q1.keep fun k hk => ?_
      have h1 := hz k (hs5 k hk)
      exact hkeep k (q1.lt k hk) (by omega) (hno k (by omega))
  · rw [hsum]
    rcases Nat.lt_or_ge k wr.heap.size with h | h
    · have h1 : s5.c k = 0 := by
        rcases Nat.eq_zero_or_pos (s5.c k) with e | e
        · exact e
        · have := hs5 k (by omega); omega
      have := ho6 k (Nat.lt_of_lt_of_le h hb5.size)
      have := a6' k
      omega
    · have h0 := hz k h
      rcases Nat.lt_or_ge k W5.heap.size with h' | h'
      · have := ho6 k h'; have := q1.le k; omega
      · have h1 : s5.c k = 0 := by
          rcases Nat.eq_zero_or_pos (s5.c k) with e | e
          · exact e
          · have := q1.lt k (by omega); omega
        have := blk_le (.slice a6 (i + 1) c6) k
        omega
  · rw [hsum]
    have h : k < wr.heap.size := Nat.lt_of_lt_of_le hk a8.size
    have h1 : s5.c k = 0 := by
      rcases Nat.eq_zero_or_pos (s5.c k) with e | e
      · exact e
      · have := hs5 k (by omega); omega
    have := ho6 k (Nat.lt_of_lt_of_le h hb5.size)
    have := a7 k hk
    omega
  · refine a8.trans ((hb5.mono a8.size).trans (Chg.below (S := fun k => W.heap.size ≤ k) ((hc6.mono fun k _ hk => ?_).put (fun _ => hoW) _) (Nat.le_trans a8.size hb5.size) fun _ h => h))
    rcases Nat.lt_or_ge k W.heap.size with h | h
    · have := a7 k h; omega
    · exact h
set_option maxRecDepth 100000 in
set_option maxHeartbeats 8000000 in
theorem copied_is : ∀ (d lo : Nat) (W : World) (q : Kid), At d lo W q → Calls Try.prog 84 #[.pointer (some ⟨q.p, 0, none⟩)] W (CopyOf d lo W q) := by
  intro d
  induction d using Nat.strongRecOn with
  | _ d ih =>
  intro lo W q h
  have IH := hid ih
  clear ih
  obtain ⟨iv, bv, its, kids, hN, hl1, hl2, hG⟩ := h.node
  obtain ⟨io, ic, rfl⟩ := owns_slice hN.items
  obtain ⟨bo, bc, rfl⟩ := owns_slice hN.below
  obtain ⟨n, hn⟩ : ∃ n, its.length = n := ⟨_, rfl⟩
  obtain ⟨kn, hkn⟩ : ∃ kn, kids.length = kn := ⟨_, rfl⟩
  have HLT := hid h.lt
  have hiv := hN.items
  have hbv := hN.below
  rw [hn] at hiv hN hl1 hl2
  rw [hkn] at hbv hN
  have hpl := hN.lt
  have hk7 : kn ≤ 7 := by cases d with
    | zero => obtain ⟨e, _⟩ := hG; rw [← hkn, e]; simp
    | succ d => obtain ⟨e, _⟩ := hG; omega
  have HN := hid hN
  have HG := hid hG
  have HNN := hid hn
  have HKN := hid hkn
  have HIV := hid hiv
  have HBV := hid hbv
  have hcp := fun i => cell_of_row W q.p i _ _ (0, 0) hN.heap
  clear hN h hG hn hkn hiv hbv
  go_enter Try.func84, Try.ntmps84
  go_wp2_with fail
  (((with_reducible refine (clone_item _ _ n (flat its) (HIV.out.src (flat_one _)) (by omega)).mono ?_)); rintro _ W3 ⟨cv, rfl, hr3, hb3, hf3⟩)
  obtain ⟨bo3, bc3, rfl⟩ := owns_slice hr3
  obtain ⟨o, ho⟩ : ∃ o, o = W3.heap.size := ⟨_, rfl⟩
  have hoW : W.heap.size ≤ o := by rw [ho]; exact hb3.size
  have HP0 := hid (show Part d W its kids o (.slice bo3 n bc3) 0 (W3.alloc (.cells #[.slice bo3 n bc3, .slice none 0 0] 118)) from by
    have hba : Below W3.heap.size W3 (W3.alloc (.cells #[.slice bo3 n bc3, .slice none 0 0] 118)) := (Below.refl _ _).alloc (Nat.le_refl _) _
    refine ⟨none, 0, [], by rw [ho]; exact heap_alloc_at _ _ _ rfl, by rw [HNN.out]; exact owns_below hr3 hba, World.ownsRow_nil _ _ _ _, by simp, by simp, fun k => ?_, fun k hk => ?_, hb3.trans (hba.mono hb3.size)⟩
    · simp only [sumC, blk_nil]
      rcases Nat.lt_or_ge k W3.heap.size with hk | hk
      · have : one o k = 0 := by unfold one; rw [if_neg (by omega)]
        have := blk_le (.slice bo3 n bc3) k
        omega
      · have e1 : blk (.slice bo3 n bc3) k = 0 := by
          rcases Nat.eq_zero_or_pos (blk (.slice bo3 n bc3) k) with e | e
          · exact e
          · have := hr3.lt (k := k) (by omega); omega
        have := one_le o k
        omega
    · simp only [sumC, blk_nil]
      rw [hf3 k hk]
      have : one o k = 0 := by unfold one; rw [if_neg (by omega)]
      omega)
  have hal : o < (W3.alloc (.cells #[.slice bo3 n bc3, .slice none 0 0] 118)).heap.size := by rw [World.size_alloc]; omega
  have hcp3 : ∀ i, W3.cell? { block := q.p, off := i } = #[Value.slice io n ic, Value.slice bo kn bc][i]? := fun i => by rw [← hcp i]; exact World.cell?_of_block (a := ⟨q.p, i, none⟩) (hb3.block q.p hpl)
  have hpl3 : q.p < W3.heap.size := Nat.lt_of_lt_of_le hpl hb3.size
  clear hr3 hb3 hf3
  subst ho
  go_wp2_with fail
  go_loopw [20, 5] (fun x y wr => ∃ i : Nat, i ≤ kn ∧ x = .int .i64 i ∧ Hid (Part d W its kids W3.heap.size (.slice bo3 n bc3) i wr)) (fun x _ _ => kn - (intOf x).toNat)
  case atStart => exact ⟨0, Nat.zero_le _, rfl, HP0⟩
  case round =>
    obtain ⟨i, hi, rfl, HP⟩ := hrel
    by_cases hlt : i < kn
    · obtain ⟨d, rfl⟩ : ∃ d', d = d' + 1 := by
        cases d with
        | zero => obtain ⟨e, _⟩ := HG.out; have := HKN.out; rw [e] at this; simp at this; omega
        | succ d => exact ⟨d, rfl⟩
      obtain ⟨s, hs⟩ : ∃ s, kids[i]? = some s := ⟨_, List.getElem?_eq_getElem (by rw [HKN.out]; exact hlt)⟩
      obtain ⟨b5, c5, ks, a1, a2, a3, a4, a5, a6, a7, a8⟩ := HP.out
      obtain ⟨rb, cb', hv, _, hrb⟩ := World.ownsRow.form HBV.out (by omega)
      obtain rfl : bo = some ⟨rb, 0, none⟩ := by injection hv
      have hcb : wr.cell? ⟨rb, i, none⟩ = some (.pointer (some ⟨s.p, 0, none⟩)) := by
        rw [World.cell?_of_block (w := W) (a := ⟨rb, i, none⟩) (a8.block rb hrb), HBV.out.cellAt i (by omega)]
        simp [ptrs, hs, Kid.v]
      have hrbl := World.block_lt_of_cell? _ _ hcb
      have hsk : At d 3 W s := HG.out.2.2 s (List.mem_of_getElem? hs)
      have hin : (i : Int) < kn := by omega
      have HCALL := hid (fun (X : World) (hb : Below wr.heap.size wr X) => IH.out d (by omega) 3 X s (hsk.keep fun k hk => (hb.block k (Nat.lt_of_lt_of_le (hsk.lt k hk) a8.size)).trans (a8.block k (hsk.lt k hk))))
      have HA3 := hid a3
      have HTR := hid (fun (X W5 : World) (h : Below wr.heap.size wr X) (h' : Below X.heap.size X W5) => h.trans (h'.mono h.size))
      have hvo : blk (.slice b5 i c5) W3.heap.size = 0 := by have := a6 W3.heap.size; rw [one_self] at this; omega
      have HNEXT := hid (fun X W5 W6 a6' c6 s5 => part_next (X := X) (W5 := W5) (W6 := W6) (a6 := a6') (c6 := c6) (s5 := s5) a1 a2 a3 a4 (d := d) a5 a6 a7 a8 hs)
      have hlo := lt_of_heap a1
      have hco := fun i => cell_of_row wr W3.heap.size i _ _ (0, 0) a1
      have HA1 := hid a1
      have ew : IntKind.i64.wrap ((i : Int) + 1) = ((i + 1 : Nat) : Int) := by rw [show (i : Int) + 1 = ((i + 1 : Nat) : Int) by omega]; exact IntWalk.i64_in _ (by omega)
      clear a1 a2 a3 a4 a5 a6 a7 a8 hs hv hrb hsk HP0 hal hcp3 hpl3 hcp
      go_upto_region 7 with fail
      go_region_law (first | (refine step_app (by rfl) _ _ _ (by rfl) _ _ (by rfl) (by rfl) (ptr_app (x := s5) HR5.out (by repeat' (first | exact Below.refl _ _ | with_reducible assumption | omega | with_reducible refine below_put_fut ?_ ?_ _ | with_reducible refine below_to_put ?_ | with_reducible refine Below.alloc ?_ ?_ _ | with_reducible refine Below.fut ?_ ?_ _ | with_reducible refine Below.drew ?_ | with_reducible refine Below.setCell ?_ ?_ _ | with_reducible refine Below.atPut ?_ ?_ _ | (simp [go_sem]; done) | (simp [go_sem]; omega))) (by omega) (by repeat' (first | rfl | assumption | (with_reducible refine (heap_drew_eq _ _).trans ?_) | (refine (Fut.heap _ _ ?_).trans ?_ ; focus (first | assumption | omega | (simp [go_sem]; done) | (simp [go_sem]; omega))) | (refine (heap_put_at _ _ _ ?_).trans ?_ ; focus (first | assumption | omega | (simp [go_sem]; done) | (simp [go_sem]; omega))) | (refine (heap_put_other _ _ _ _ ?_).trans ?_ ; focus (first | assumption | omega | (simp [go_sem]; done) | (simp [go_sem]; omega))) | (refine (heap_alloc_other _ _ _ ?_).trans ?_ ; focus (first | assumption | omega | (simp [go_sem]; done) | (simp [go_sem]; omega))) | (refine (heap_alloc_at _ _ _ ?_).trans ?_ ; focus (first | assumption | omega | (simp [go_sem]; done) | (simp [go_sem]; omega))) | (simp [go_sem]; done) | (simp [go_sem]; omega)))) ?_; rintro _ W6 ⟨⟨a6, c6, rfl⟩, hr6, hc6, ho6⟩; have hp6 := (hc6.block W3.heap.size (Nat.lt_of_lt_of_le hlo HB5.out.size) (by rw [hvo]; simp)).trans ((HB5.out.block W3.heap.size hlo).trans HA1.out); have hl6 := lt_of_heap hp6; have HR6 := hid hr6; have HC6 := hid hc6; have HO6 := hid ho6; clear hr6 hc6 ho6; rw [← put_self hp6]) | (go_simp; go_at_call 84; refine (HCALL.out _ (by repeat' (first | exact Below.refl _ _ | with_reducible assumption | omega | with_reducible refine below_put_fut ?_ ?_ _ | with_reducible refine below_to_put ?_ | with_reducible refine Below.alloc ?_ ?_ _ | with_reducible refine Below.fut ?_ ?_ _ | with_reducible refine Below.drew ?_ | with_reducible refine Below.setCell ?_ ?_ _ | with_reducible refine Below.atPut ?_ ?_ _ | (simp [go_sem]; done) | (simp [go_sem]; omega)))).mono ?_; rintro _ W5 ⟨s5, rfl, q1, q2, q3, q4⟩; have HB5 := hid (HTR.out _ _ (show Below wr.heap.size wr _ from (by repeat' (first | exact Below.refl _ _ | with_reducible assumption | omega | with_reducible refine below_put_fut ?_ ?_ _ | with_reducible refine below_to_put ?_ | with_reducible refine Below.alloc ?_ ?_ _ | with_reducible refine Below.fut ?_ ?_ _ | with_reducible refine Below.drew ?_ | with_reducible refine Below.setCell ?_ ?_ _ | with_reducible refine Below.atPut ?_ ?_ _ | (simp [go_sem]; done) | (simp [go_sem]; omega)))) q4); have hco5 := fun i => cell_of_row W5 W3.heap.size i _ _ (0, 0) ((HB5.out.block W3.heap.size hlo).trans HA1.out); have hlo5 : W3.heap.size < W5.heap.size := Nat.lt_of_lt_of_le hlo HB5.out.size; have HR5 := hid (owns_below HA3.out HB5.out); have HQ := hid (And.intro q1 (And.intro q2 (And.intro q3 q4))); clear q1 q2 q3 q4; go_simp))
      all_goals
        go_wp2_with fail
        go_roundw
        case rel => exact ⟨i + 1, by omega, by go_num, hid (HNEXT.out _ W5 W6 a6 c6 s5 (by exact (Below.refl _ _).drew) HQ.out.1 HQ.out.2.1 HQ.out.2.2.1 HQ.out.2.2.2 HR6.out HC6.out HO6.out hoW)⟩
        case measure => simp [intOf]; omega
    · obtain rfl : i = kn := by omega
      go_wp2_with fail
      go_ret
      exact HP.out.done HKN.out HG.out (by rw [HNN.out]; exact hl1) (by rw [HNN.out]; exact hl2)
end Go.Proofs.Ythknenhcnpgkcaa

/- Contracts of package shelf: Copy. -/
namespace Go.Proofs.Ythknenhcnpgkcaa
set_option linter.unusedVariables false
set_option linter.unusedSimpArgs false
open Go.RowKit
theorem copied_none (W : World) : Calls Try.prog 84 #[.pointer none] W (Makes (.pointer none) W) := by
  go_enter Try.func84, Try.ntmps84
  go_wp2_with (first | (((with_reducible refine wp_region_fut_lit (by kernel_rfl) (by kernel_rfl) ?_)); (repeat (go_big_quiet_step ((first | fail)))); ((with_reducible refine wpQuiet_nil ?_)); rintro _ ⟨u, rfl⟩; (try (rw [Fut.put_self u (by first | assumption | (simp [go_sem]; done) | (simp [go_sem]; omega))]))))
  go_ret; exact .mk (by first | rfl | (simp; done) | (simp; omega)) (by repeat' (first | exact Below.refl _ _ | with_reducible assumption | omega | with_reducible refine below_put_fut ?_ ?_ _ | with_reducible refine below_to_put ?_ | with_reducible refine Below.alloc ?_ ?_ _ | with_reducible refine Below.fut ?_ ?_ _ | with_reducible refine Below.drew ?_ | with_reducible refine Below.setCell ?_ ?_ _ | with_reducible refine Below.atPut ?_ ?_ _ | (simp [go_sem]; done) | (simp [go_sem]; omega)))
/-- A shelf alike, in blocks of its own. -/
def CopyShf (most : Int) (xs : List It) (W : World) (e : Ending) (W' : World) : Prop := ∃ g' c' top', e = .returned (.pointer (some ⟨g', 0, none⟩)) ∧ Shf most xs W' g' c' top' ∧ (∀ k, k < W.heap.size → c' k = 0) ∧ Below W.heap.size W W'
theorem copyShf_none {most : Int} {W W5 : World} (hb : Below W.heap.size W W5) : CopyShf most [] W (.returned (.pointer (some ⟨W5.heap.size, 0, none⟩))) (W5.alloc (shfObj most 0 (.pointer none))) := by
  have hba : Below W5.heap.size W5 (W5.alloc (shfObj most 0 (.pointer none))) := (Below.refl _ _).alloc (Nat.le_refl _) _
  exact ⟨_, _, _, rfl, shf_new most (heap_alloc_at _ _ _ rfl), fun k hk => by unfold one; rw [if_neg (by have := hb.size; omega)], hb.trans (hba.mono hb.size)⟩
theorem copyShf_some {most : Int} {xs : List It} {d : Nat} {W X W5 : World} {q q5 : Kid} (hr : Rises xs) (hs : Small xs) (hx : q.xs = xs) (hX : Below W.heap.size W X) (q1 : At d 1 W5 q5) (q2 : q5.xs = q.xs) (q3 : ∀ k, k < X.heap.size → q5.c k = 0) (q4 : Below X.heap.size X W5) :
    CopyShf most xs W (.returned (.pointer (some ⟨W5.heap.size, 0, none⟩))) (W5.alloc (shfObj most xs.length (.pointer (some ⟨q5.p, 0, none⟩)))) := by
  have hba : Below W5.heap.size W5 (W5.alloc (shfObj most xs.length (.pointer (some ⟨q5.p, 0, none⟩)))) := (Below.refl _ _).alloc (Nat.le_refl _) _
  have hb : Below W.heap.size W W5 := hX.trans (q4.mono hX.size)
  have hg : q5.c W5.heap.size = 0 := by
    rcases Nat.eq_zero_or_pos (q5.c W5.heap.size) with e | e
    · exact e
    · have := q1.lt W5.heap.size (by omega); omega
  refine ⟨_, fun k => one W5.heap.size k + q5.c k, _, rfl, ⟨heap_alloc_at _ _ _ rfl, hr, hs, .some d q5 (q1.keep fun k hk => hba.block k (q1.lt k hk)) (q2.trans hx) hg fun k => rfl⟩, fun k hk => ?_, hb.trans (hba.mono hb.size)⟩
  have h1 := q3 k (Nat.lt_of_lt_of_le hk hX.size)
  have h2 : one W5.heap.size k = 0 := by unfold one; rw [if_neg (by have := hb.size; omega)]
  show one W5.heap.size k + q5.c k = 0
  omega
set_option maxRecDepth 100000 in
set_option maxHeartbeats 8000000 in
theorem copy_shf {most : Int} {xs : List It} {W : World} {g : Nat} {c : Cnt} {top : Value} (h : Shf most xs W g c top) : Calls Try.prog 56 #[.pointer (some ⟨g, 0, none⟩)] W (CopyShf most xs W) := by
  have hgh := h.heap
  have hgl := lt_of_heap hgh
  have hcg := fun i => cell_of_row W g i _ _ (0, 0) hgh
  have HGH := hid hgh
  have HR := hid h.rises
  have HS := hid h.small
  cases h.top with
  | none hx hc =>
    subst hx
    clear h hgh hc
    go_enter Try.func56, Try.ntmps56
    go_upto_region 3 with fail
    go_region_with (go_at_call 84; go_must ((refine (copied_none _).mono ?_); rintro _ _ ⟨rfl, u5, rfl⟩; have HB5 := hid (show Below W.heap.size W u5.val from (by repeat' (first | exact Below.refl _ _ | with_reducible assumption | omega | with_reducible refine below_put_fut ?_ ?_ _ | with_reducible refine below_to_put ?_ | with_reducible refine Below.alloc ?_ ?_ _ | with_reducible refine Below.fut ?_ ?_ _ | with_reducible refine Below.drew ?_ | with_reducible refine Below.setCell ?_ ?_ _ | with_reducible refine Below.atPut ?_ ?_ _ | (simp [go_sem]; done) | (simp [go_sem]; omega)))); generalize u5.val = W5 at HB5 ⊢; have hco5 := fun i => cell_of_row W5 g i _ _ (0, 0) ((HB5.out.block g hgl).trans HGH.out); have hlo5 : g < W5.heap.size := Nat.lt_of_lt_of_le hgl HB5.out.size))
    all_goals
      go_wp2_with fail
      go_ret
      exact copyShf_none HB5.out
  | some d q ha hx hgc hc =>
    have HC := hid (fun (X : World) (hb : Below W.heap.size W X) => copied_is d 1 X q (ha.keep fun k hk => hb.block k (ha.lt k hk)))
    have HTR := hid (fun (X W5 : World) (h : Below W.heap.size W X) (h' : Below X.heap.size X W5) => h.trans (h'.mono h.size))
    have HX := hid hx
    have HN := hid (fun X W5 q5 => copyShf_some (most := most) (X := X) (W5 := W5) (q5 := q5) (d := d) (W := W) HR.out HS.out hx)
    clear h hgh hx hgc hc ha
    go_enter Try.func56, Try.ntmps56
    go_upto_region 3 with fail
    go_region_with (go_at_call 84; go_must (refine (HC.out _ (by repeat' (first | exact Below.refl _ _ | with_reducible assumption | omega | with_reducible refine below_put_fut ?_ ?_ _ | with_reducible refine below_to_put ?_ | with_reducible refine Below.alloc ?_ ?_ _ | with_reducible refine Below.fut ?_ ?_ _ | with_reducible refine Below.drew ?_ | with_reducible refine Below.setCell ?_ ?_ _ | with_reducible refine Below.atPut ?_ ?_ _ | (simp [go_sem]; done) | (simp [go_sem]; omega)))).mono ?_; rintro _ W5 ⟨q5, rfl, q1, q2, q3, q4⟩; have HB5 := hid (HTR.out _ _ (show Below W.heap.size W _ from (by repeat' (first | exact Below.refl _ _ | with_reducible assumption | omega | with_reducible refine below_put_fut ?_ ?_ _ | with_reducible refine below_to_put ?_ | with_reducible refine Below.alloc ?_ ?_ _ | with_reducible refine Below.fut ?_ ?_ _ | with_reducible refine Below.drew ?_ | with_reducible refine Below.setCell ?_ ?_ _ | with_reducible refine Below.atPut ?_ ?_ _ | (simp [go_sem]; done) | (simp [go_sem]; omega)))) q4); have hco5 := fun i => cell_of_row W5 g i _ _ (0, 0) ((HB5.out.block g hgl).trans HGH.out); have hlo5 : g < W5.heap.size := Nat.lt_of_lt_of_le hgl HB5.out.size; have HQ := hid (And.intro q1 (And.intro q2 (And.intro q3 q4))); clear q1 q2 q3 q4))
    all_goals
      go_wp2_with fail
      go_ret
      exact HN.out _ W5 q5 (by exact (Below.refl _ _).drew) HQ.out.1 HQ.out.2.1 HQ.out.2.2.1 HQ.out.2.2.2
/-- A shelf's copy beside it. -/
theorem two_copy {B : Nat} {w0 : World} {most : Int} {xs : List It} {g : Nat} {W : World} (h : Sh B w0 most xs g W) :
    Calls Try.prog 56 #[.pointer (some ⟨g, 0, none⟩)] W fun e W' => ∃ g', e = .returned (.pointer (some ⟨g', 0, none⟩)) ∧ Two B w0 most xs xs g g' W' := by
  have hB := h.ge
  obtain ⟨h1, c, top, h2, h3⟩ := h
  refine (copy_shf h2).mono ?_
  rintro e W' ⟨g', c', top', rfl, k1, k2, k3⟩
  refine ⟨g', rfl, h1.trans (k3.mono hB), c, top, c', top', h2.on k3, k1, fun k => ?_, fun k hk => ?_⟩
  · rcases Nat.lt_or_ge k W.heap.size with e | e
    · have := k2 k e; have := h2.le k; omega
    · have h0 : c k = 0 := by
        rcases Nat.eq_zero_or_pos (c k) with z | z
        · exact z
        · have := h2.lt k (by omega); omega
      have := k1.le k
      omega
  · rcases Nat.lt_or_ge k W.heap.size with e | e
    · have := k2 k e; exact h3 k (by omega)
    · omega
end Go.Proofs.Ythknenhcnpgkcaa
