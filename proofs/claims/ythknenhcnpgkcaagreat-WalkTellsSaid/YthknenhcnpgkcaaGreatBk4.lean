/- The book of lists: Items, copyItems. -/
import Derived.Test.YthknenhcnpgkcaaGreatBk3
import Derived.Test.YthknenhcnpgkcaaGreatMc
import Derived.Test.YthknenhcnpgkcaaGreatMb
namespace Go.Proofs.YthknenhcnpgkcaaGreat
set_option linter.unusedVariables false
set_option linter.unusedSimpArgs false
open Go.RowKit
theorem list_info : (Tryz.prog.info? 22).map (fun i => (i.zero, i.size, i.bytes)) = some (some (.slice none 0 0), 1, 24) := by kernel_rfl
/-- A row of lists: one more. -/
theorem list_app {W W2 : World} {v : Value} {n : Nat} {ys : List Value} (h : Row W 22 1 v n ys) (hb : Below W.heap.size W W2) (hn : n ≤ 1000) {S : Nat} {x : Value} (h1 : x.oneCell' = true) (hS : W2.heap[S]? = some (.cells #[x] 22)) :
    ∃ v' W', (Builtin.append_ #[35, 35] 35 #[v, .slice (some ⟨S, 0, none⟩) 1 1]).run Tryz.prog W2 = .ok v' W' ∧ (∃ ao c, v' = .slice ao (n + 1) c) ∧ Row W' 22 1 v' (n + 1) (ys ++ [x]) ∧ Chg (fun k => blk v k ≠ 0) W W' ∧ ∀ k, k < W.heap.size → blk v' k ≤ blk v k := by
  obtain ⟨i0, hi0, hz0, hz1, hz2⟩ := info_parts list_info
  obtain ⟨v', W', hrun, hrow, hch, hle⟩ := append_row (P := Tryz.prog) W2 35 35 22 i0 _ 1 24 Tryz.underlying35 hi0 hz0 hz1 hz2 rfl (by omega) v n _ (owns_below h hb) (.slice (some ⟨S, 0, none⟩) 1 1) 1 [x]
    ⟨rfl, by simp [h1], .inr ⟨⟨S, 0, none⟩, 1, rfl, World.news_of_block hS⟩⟩ (by unfold maxLen; omega) (by omega)
  obtain ⟨ao, c, rfl⟩ := owns_slice hrow
  exact ⟨_, W', hrun, ⟨ao, c, rfl⟩, hrow, (Chg.of_below (S := fun k => blk v k ≠ 0) hb).trans hch (fun _ _ h => h), fun k hk => hle k (Nat.lt_of_lt_of_le hk hb.size)⟩
/-- A list that is kept, and its copy. -/
structure Kept where
  v : Value
  w : Value
  xs : List It
def sumK : List Kept → Cnt
  | [], _ => 0
  | q :: r, k => (blk q.v k + blk q.w k) + sumK r k
theorem sumK_append : ∀ (a b : List Kept) (k : Nat), sumK (a ++ b) k = sumK a k + sumK b k
  | [], _, _ => by simp [sumK]
  | q :: a, b, k => by simp [sumK, sumK_append a b k]; omega
theorem sumK_mem {q : Kept} : ∀ {l : List Kept}, q ∈ l → ∀ k, blk q.v k + blk q.w k ≤ sumK l k
  | r :: l, h, k => by
    simp only [sumK]
    rcases List.mem_cons.1 h with rfl | h
    · omega
    · have := sumK_mem h k; omega
def bookObj (iv wv : Value) : Obj := .cells #[.slice none 0 0, .slice none 0 0, .slice none 0 0, .slice none 0 0, .slice none 0 0, .slice none 0 0, iv, wv, .slice none 0 0, .slice none 0 0, .slice none 0 0, .slice none 0 0, .slice none 0 0, .slice none 0 0] 40
/-- The book, that holds lists of items. -/
structure Bk (W : World) (bk : Nat) (iv wv : Value) (es : List Kept) (c : Cnt) : Prop where
  heap : W.heap[bk]? = some (bookObj iv wv)
  items : Row W 22 1 iv es.length (es.map Kept.v)
  was : Row W 22 1 wv es.length (es.map Kept.w)
  each : ∀ q ∈ es, q.xs.length ≤ 900 ∧ Row W 59 2 q.v q.xs.length (flat q.xs) ∧ Row W 59 2 q.w q.xs.length (flat q.xs)
  cnt : ∀ k, c k = one bk k + (blk iv k + (blk wv k + sumK es k))
  le : ∀ k, c k ≤ 1
theorem Bk.lt {W : World} {bk : Nat} {iv wv : Value} {es : List Kept} {c : Cnt} (h : Bk W bk iv wv es c) {k : Nat} (hk : c k ≠ 0) : k < W.heap.size := by
  have hc := h.cnt k
  by_cases e1 : one bk k = 0
  · by_cases e2 : blk iv k = 0
    · by_cases e3 : blk wv k = 0
      · have hs : sumK es k ≠ 0 := by omega
        have : ∃ q ∈ es, blk q.v k + blk q.w k ≠ 0 := by
          clear hc e1 e2 e3
          have : ∀ es : List Kept, sumK es k ≠ 0 → ∃ q ∈ es, blk q.v k + blk q.w k ≠ 0 := by
            intro es
            induction es with
            | nil => intro h; exact (h rfl).elim
            | cons q r ih =>
              intro h
              by_cases e : blk q.v k + blk q.w k = 0
              · simp only [sumK] at h
                obtain ⟨q', h1, h2⟩ := ih (by omega)
                exact ⟨q', by simp [h1], h2⟩
              · exact ⟨q, by simp, e⟩
          exact this es hs
        obtain ⟨q, hq, h2⟩ := this
        obtain ⟨_, r1, r2⟩ := h.each q hq
        by_cases e : blk q.v k = 0
        · exact r2.lt (k := k) (by omega)
        · exact r1.lt e
      · exact h.was.lt e3
    · exact h.items.lt e2
  · rw [one_ne e1]; exact lt_of_heap h.heap
theorem Bk.keep {W W' : World} {bk : Nat} {iv wv : Value} {es : List Kept} {c : Cnt} (h : Bk W bk iv wv es c) (hh : ∀ k, c k ≠ 0 → W'.heap[k]? = W.heap[k]?) : Bk W' bk iv wv es c :=
  ⟨(hh bk (by have := h.cnt bk; rw [one_self] at this; omega)).trans h.heap, h.items.keep fun k hk => hh k (by have := h.cnt k; omega), h.was.keep fun k hk => hh k (by have := h.cnt k; omega),
   fun q hq => ⟨(h.each q hq).1, (h.each q hq).2.1.keep fun k hk => hh k (by have := h.cnt k; have := sumK_mem hq k; omega), (h.each q hq).2.2.keep fun k hk => hh k (by have := h.cnt k; have := sumK_mem hq k; omega)⟩, h.cnt, h.le⟩
theorem Bk.below {W W' : World} {bk : Nat} {iv wv : Value} {es : List Kept} {c : Cnt} (h : Bk W bk iv wv es c) (hb : Below W.heap.size W W') : Bk W' bk iv wv es c := h.keep fun k hk => hb.block k (h.lt hk)
theorem Bk.chg {W W' : World} {bk : Nat} {iv wv : Value} {es : List Kept} {c : Cnt} {S : Nat → Prop} (h : Bk W bk iv wv es c) (hb : Chg S W W') (hs : ∀ k, c k ≠ 0 → ¬ S k) : Bk W' bk iv wv es c := h.keep fun k hk => hb.block k (h.lt hk) (hs k hk)
theorem copyItems_is {W : World} {v : Value} {n : Nat} {xs : List It} (h : Src W 2 v n (flat xs)) (hn : n ≤ 900) :
    Calls Tryz.prog 34 #[v] W fun e W' => ∃ ao c, e = .returned (.slice ao n c) ∧ Row W' 59 2 (.slice ao n c) n (flat xs) ∧ Below W.heap.size W W' ∧ ∀ k, k < W.heap.size → blk (.slice ao n c) k = 0 := by
  obtain ⟨a0, c0, rfl⟩ := h.slice_of
  go_enter Tryz.func34, Tryz.ntmps34
  go_wp2_with (first | (at_builtin; refine wpList_append_ex (by rfl) _ _ _ (by rfl) _ _ (by rfl) (by rfl) (items_two (v := .slice none 0 0) (n := 0) (xs := []) (m := n) (ys := xs) (W := W) (World.ownsRow_nil _ _ _ _) (by repeat' (first | exact Below.refl _ _ | with_reducible assumption | omega | with_reducible refine below_put_fut ?_ ?_ _ | with_reducible refine below_to_put ?_ | with_reducible refine Below.alloc ?_ ?_ _ | with_reducible refine Below.fut ?_ ?_ _ | with_reducible refine Below.drew ?_ | with_reducible refine Below.setCell ?_ ?_ _ | with_reducible refine Below.atPut ?_ ?_ _ | (simp [go_sem]; done) | (simp [go_sem]; omega))) h (by omega)) ?_; rintro v4 w4 ⟨⟨ao4, c4, rfl⟩, hr4, hor4⟩; rw [Nat.zero_add] at hr4 hor4 ⊢))
  go_ret
  rw [List.nil_append] at hr4
  refine ⟨ao4, c4, rfl, hr4, ?_, fun k hk => ?_⟩
  · rcases hor4 with ⟨ao, c, h1, h2, h3⟩ | ⟨h1, h2⟩
    · exact h3.below (Nat.le_refl _) fun k hk => absurd (blk_nil 0 0 k) hk
    · exact h2
  · rcases hor4 with ⟨ao, c, h1, h2, h3⟩ | ⟨h1, h2⟩
    · cases h1
      cases h2
      exact blk_nil _ _ _
    · exact h1 k hk
end Go.Proofs.YthknenhcnpgkcaaGreat
