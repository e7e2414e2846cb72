/- The book of lists: one more list is kept. -/
import Derived.Test.YthknenhcnpgkcaaGreatBk4
namespace Go.Proofs.YthknenhcnpgkcaaGreat
set_option linter.unusedVariables false
set_option linter.unusedSimpArgs false
open Go.RowKit
theorem book_next {W w4 W5 W6 : World} {bk n : Nat} {iv wv iv' wv' v w' : Value} {es : List Kept} {xs : List It} {c : Cnt} {m : Nat} (hes : es.length = m) (h : Bk W bk iv wv es c) (hv : Row W 59 2 v n (flat xs)) (hl : xs.length = n) (hm : n ≤ 900) (hd : ∀ k, blk v k ≠ 0 → c k = 0)
    (c4 : Chg (fun k => blk iv k ≠ 0) W w4) (r4 : Row w4 22 1 iv' (m + 1) (es.map Kept.v ++ [v])) (o4 : ∀ k, k < W.heap.size → blk iv' k ≤ blk iv k)
    (b5 : Below w4.heap.size (put w4 bk (bookObj iv' wv)) W5) (r5 : Row W5 59 2 w' n (flat xs)) (o5 : ∀ k, k < w4.heap.size → blk w' k = 0)
    (c6 : Chg (fun k => blk wv k ≠ 0) W5 W6) (r6 : Row W6 22 1 wv' (m + 1) (es.map Kept.w ++ [w'])) (o6 : ∀ k, k < W5.heap.size → blk wv' k ≤ blk wv k) :
    ∃ c', Bk (put W6 bk (bookObj iv' wv')) bk iv' wv' (es ++ [⟨v, w', xs⟩]) c' ∧ Chg (fun k => c k ≠ 0) W (put W6 bk (bookObj iv' wv')) ∧ ∀ k, k < W.heap.size → c' k ≤ c k + blk v k := by
  have hbl := lt_of_heap h.heap
  have hcb := h.cnt bk
  have hlb := h.le bk
  rw [one_self] at hcb
  have z4 := c4.size
  have z5 : w4.heap.size ≤ W5.heap.size := by have := b5.size; rwa [size_put] at this
  have z6 := c6.size
  have hi4 : blk iv' bk = 0 := by have := o4 bk hbl; omega
  have hw6 : blk wv' bk = 0 := by have := o6 bk (by omega); omega
  have hvb : blk v bk = 0 := by
    rcases Nat.eq_zero_or_pos (blk v bk) with e | e
    · exact e
    · have := hd bk (by omega); omega
  have hwb : blk w' bk = 0 := o5 bk (by omega)
  have wvlt : ∀ k, blk wv k ≠ 0 → k < W.heap.size := fun k hk => h.was.lt hk
  have i4lt : ∀ k, blk iv' k ≠ 0 → k < w4.heap.size := fun k hk => r4.lt hk
  have w5lt : ∀ k, blk w' k ≠ 0 → k < W5.heap.size := fun k hk => r5.lt hk
  have vlt : ∀ k, blk v k ≠ 0 → k < W.heap.size := fun k hk => hv.lt hk
  -- a block that lies ahead of W, and is neither iv's nor wv's nor bk, lies as it lay
  have stay : ∀ k, k < W.heap.size → blk iv k = 0 → blk wv k = 0 → k ≠ bk → (put W6 bk (bookObj iv' wv')).heap[k]? = W.heap[k]? := fun k hk h1 h2 h3 => by
    rw [heap_put_other _ _ _ _ h3, c6.block k (by omega) (by rw [h2]; simp), b5.block k (by omega), heap_put_other _ _ _ _ h3, c4.block k hk (by rw [h1]; simp)]
  refine ⟨fun k => one bk k + (blk iv' k + (blk wv' k + sumK (es ++ [⟨v, w', xs⟩]) k)), ⟨heap_put_at _ _ _ (by omega), ?_, ?_, ?_, fun _ => rfl, ?_⟩, ?_, ?_⟩
  · have r4' : Row w4 22 1 iv' (es ++ [(⟨v, w', xs⟩ : Kept)]).length ((es ++ [(⟨v, w', xs⟩ : Kept)]).map Kept.v) := by simpa [hes] using r4
    refine r4'.keep fun k hk => ?_
    have hkb : k ≠ bk := fun e => by subst e; omega
    have hk4 := i4lt k hk
    have hkw : blk wv k = 0 := by
      rcases Nat.eq_zero_or_pos (blk wv k) with e | e
      · exact e
      · have h1 := wvlt k (by omega)
        have h2 := o4 k h1
        have h3 := h.cnt k
        have h4 := h.le k
        omega
    rw [heap_put_other _ _ _ _ hkb, c6.block k (by omega) (by rw [hkw]; simp), b5.block k hk4, heap_put_other _ _ _ _ hkb]
  · have r6' : Row W6 22 1 wv' (es ++ [(⟨v, w', xs⟩ : Kept)]).length ((es ++ [(⟨v, w', xs⟩ : Kept)]).map Kept.w) := by simpa [hes] using r6
    exact r6'.keep fun k hk => heap_put_other _ _ _ _ (fun e => by subst e; omega)
  · intro q hq
    rcases List.mem_append.1 hq with hq | hq
    · obtain ⟨q1, q2, q3⟩ := h.each q hq
      have hs : ∀ k, blk q.v k + blk q.w k ≤ sumK es k := sumK_mem hq
      refine ⟨q1, q2.keep fun k hk => stay k (q2.lt hk) ?_ ?_ ?_, q3.keep fun k hk => stay k (q3.lt hk) ?_ ?_ ?_⟩
      all_goals have h1 := hs k; have h2 := h.cnt k; have h3 := h.le k
      · omega
      · omega
      · intro e; subst e; rw [one_self] at h2; omega
      · omega
      · omega
      · intro e; subst e; rw [one_self] at h2; omega
    · obtain rfl := List.mem_singleton.1 hq
      refine ⟨by show xs.length ≤ 900; omega, ?_, ?_⟩
      · simp only
        rw [hl]
        refine hv.keep fun k hk => stay k (hv.lt hk) ?_ ?_ (fun e => by subst e; omega)
        · have := hd k hk; have := h.cnt k; omega
        · have := hd k hk; have := h.cnt k; omega
      · simp only
        rw [hl]
        refine r5.keep fun k hk => ?_
        have hkb : k ≠ bk := fun e => by subst e; omega
        have h5 := w5lt k hk
        have hkw : blk wv k = 0 := by
          rcases Nat.eq_zero_or_pos (blk wv k) with e | e
          · exact e
          · have h1 := wvlt k (by omega)
            have := o5 k (by omega)
            omega
        rw [heap_put_other _ _ _ _ hkb, c6.block k h5 (by rw [hkw]; simp)]
  · intro k
    simp only [sumK_append, sumK]
    have h1 := h.cnt k
    have h2 := h.le k
    have q1 := blk_le iv' k
    have q2 := blk_le wv' k
    have q3 := blk_le w' k
    have q4 := blk_le v k
    by_cases e : k < W.heap.size
    · have h3 := o4 k e
      have h4 := o6 k (by omega)
      have h5 := o5 k (by omega)
      by_cases e2 : blk v k = 0
      · omega
      · have := hd k e2; omega
    · have h3 : one bk k = 0 := by unfold one; rw [if_neg (by omega)]
      have h4 : sumK es k = 0 := by
        rcases Nat.eq_zero_or_pos (sumK es k) with e3 | e3
        · exact e3
        · exact absurd (h.lt (k := k) (by omega)) e
      have h5 : blk v k = 0 := by
        rcases Nat.eq_zero_or_pos (blk v k) with e3 | e3
        · exact e3
        · exact absurd (vlt k (by omega)) e
      have h6 : blk wv k = 0 := by
        rcases Nat.eq_zero_or_pos (blk wv k) with e3 | e3
        · exact e3
        · exact absurd (wvlt k (by omega)) e
      by_cases e4 : blk iv' k = 0
      · by_cases e5 : blk w' k = 0
        · omega
        · have := w5lt k e5; have := o6 k this; omega
      · have h7 := i4lt k e4
        have := o5 k h7
        have := o6 k (by omega)
        omega
  · have s : ∀ k, one bk k ≠ 0 ∨ blk iv k ≠ 0 ∨ blk wv k ≠ 0 → c k ≠ 0 := fun k hk => by have := h.cnt k; omega
    refine Chg.put ((((c4.mono fun k _ hk => s k (.inr (.inl hk))).put (g := bk) (fun _ => s bk (by rw [one_self]; omega)) (bookObj iv' wv)).trans (Chg.of_below (S := fun k => c k ≠ 0) (by rw [size_put]; exact b5)) (fun _ _ h => h)).trans c6 (fun k _ hk => s k (.inr (.inr hk)))) (fun _ => s bk (by rw [one_self]; omega)) _
  · intro k hk
    simp only [sumK_append, sumK]
    have h1 := h.cnt k
    have h3 := o4 k hk
    have h4 := o6 k (by omega)
    have h5 := o5 k (by omega)
    omega
set_option maxRecDepth 100000 in
set_option maxHeartbeats 4000000 in
theorem bookItems_is {W : World} {bk : Nat} {iv wv : Value} {es : List Kept} {c : Cnt} (h : Bk W bk iv wv es c) (hn : es.length < 250) {v : Value} {n : Nat} {xs : List It} (hv : Row W 59 2 v n (flat xs)) (hl : xs.length = n) (hm : n ≤ 900) (hd : ∀ k, blk v k ≠ 0 → c k = 0) :
    Calls Tryz.prog 15 #[.pointer (some ⟨bk, 0, none⟩), v] W fun e W' => e = .returned (.tuple #[]) ∧ ∃ iv' wv' w' c', Bk W' bk iv' wv' (es ++ [⟨v, w', xs⟩]) c' ∧ Chg (fun k => c k ≠ 0) W W' ∧ ∀ k, k < W.heap.size → c' k ≤ c k + blk v k := by
  obtain ⟨io, ic, rfl⟩ := owns_slice h.items
  obtain ⟨wo, wc, rfl⟩ := owns_slice h.was
  obtain ⟨vo, vc, rfl⟩ := owns_slice hv
  have hi := h.items
  have hw := h.was
  obtain ⟨m, hes⟩ : ∃ m, es.length = m := ⟨_, rfl⟩
  rw [hes] at hi hw hn h
  have hcb := fun i => cell_of_row W bk i _ _ (0, 0) h.heap
  have hbl := lt_of_heap h.heap
  have HH := hid h
  have HI := hid hi
  have HW := hid hw
  have HV := hid hv
  have HES := hid hes
  have HL := hid hl
  have HD := hid hd
  have hib : blk (.slice io m ic) bk = 0 := by have h1 := h.cnt bk; have h2 := h.le bk; rw [one_self] at h1; omega
  have hwb : blk (.slice wo m wc) bk = 0 := by have h1 := h.cnt bk; have h2 := h.le bk; rw [one_self] at h1; omega
  have hm0 : m ≤ 1000 := by omega
  have HIB := hid hib
  have HWB := hid hwb
  clear h hi hw hv hes hl hd hib hwb
  go_enter Tryz.func15, Tryz.ntmps15
  go_upto_region 2 with (first | (at_builtin; refine wpList_append_ex (by rfl) _ _ _ (by rfl) _ _ (by rfl) (by rfl) (list_app (x := .slice vo n vc) HI.out (by repeat' (first | exact Below.refl _ _ | with_reducible assumption | omega | with_reducible refine below_put_fut ?_ ?_ _ | with_reducible refine below_to_put ?_ | with_reducible refine Below.alloc ?_ ?_ _ | with_reducible refine Below.fut ?_ ?_ _ | with_reducible refine Below.drew ?_ | with_reducible refine Below.setCell ?_ ?_ _ | with_reducible refine Below.atPut ?_ ?_ _ | (simp [go_sem]; done) | (simp [go_sem]; omega))) hm0 rfl (by repeat' (first | rfl | assumption | (with_reducible refine (heap_drew_eq _ _).trans ?_) | (refine (Fut.heap _ _ ?_).trans ?_ ; focus (first | assumption | omega | (simp [go_sem]; done) | (simp [go_sem]; omega))) | (refine (heap_put_at _ _ _ ?_).trans ?_ ; focus (first | assumption | omega | (simp [go_sem]; done) | (simp [go_sem]; omega))) | (refine (heap_put_other _ _ _ _ ?_).trans ?_ ; focus (first | assumption | omega | (simp [go_sem]; done) | (simp [go_sem]; omega))) | (refine (heap_alloc_other _ _ _ ?_).trans ?_ ; focus (first | assumption | omega | (simp [go_sem]; done) | (simp [go_sem]; omega))) | (refine (heap_alloc_at _ _ _ ?_).trans ?_ ; focus (first | assumption | omega | (simp [go_sem]; done) | (simp [go_sem]; omega))) | (simp [go_sem]; done) | (simp [go_sem]; omega)))) ?_; rintro v4 w4 ⟨⟨a4, c4, rfl⟩, hr4, hc4, ho4⟩; have hp4 := (hc4.block bk hbl (by rw [HIB.out]; simp)).trans HH.out.heap; unfold bookObj at hp4; have hl4 := lt_of_heap hp4; have HR4 := hid hr4; have HC4 := hid hc4; have HO4 := hid ho4; clear hr4 hc4 ho4; rw [← put_self hp4]))
  obtain ⟨X, hX⟩ : ∃ X, X = put w4 bk (bookObj (.slice a4 (m + 1) c4) (.slice wo m wc)) := ⟨_, rfl⟩
  have hX' := hX
  unfold bookObj at hX'
  rw [← hX']
  clear hX'
  have hpX : X.heap[bk]? = some (bookObj (.slice a4 (m + 1) c4) (.slice wo m wc)) := by rw [hX]; exact heap_put_at _ _ _ hl4
  have HXW := hid (show Row X 22 1 (.slice wo m wc) m (es.map Kept.w) from HW.out.keep fun k hk => by
    have h1 := HH.out.cnt k
    have h2 := HH.out.le k
    have h3 := HWB.out
    rw [hX, heap_put_other _ _ _ _ (fun e => by subst e; omega), HC4.out.block k (HW.out.lt hk) (by omega)])
  have HXV := hid (show Src X 2 (.slice vo n vc) n (flat xs) from Row.src (HV.out.keep fun k hk => by
    have h1 := HH.out.cnt k
    have h2 := HD.out k hk
    rw [hX, heap_put_other _ _ _ _ (fun e => by subst e; rw [one_self] at h1; omega), HC4.out.block k (HV.out.lt hk) (by omega)]) (flat_one _))
  have HZX := hid (show X.heap.size = w4.heap.size by rw [hX]; exact size_put w4 bk _)
  have hcX := fun i => cell_of_row X bk i _ _ (0, 0) hpX
  have hlX := lt_of_heap hpX
  have HPX := hid hpX
  have HXE := hid hX
  clear hX hpX hcb hp4 hl4 hbl
  go_region_law (first | (refine step_app (by rfl) _ _ _ (by rfl) _ _ (by rfl) (by rfl) (list_app (x := .slice a5 n c5) HWR5.out (by repeat' (first | exact Below.refl _ _ | with_reducible assumption | omega | with_reducible refine below_put_fut ?_ ?_ _ | with_reducible refine below_to_put ?_ | with_reducible refine Below.alloc ?_ ?_ _ | with_reducible refine Below.fut ?_ ?_ _ | with_reducible refine Below.drew ?_ | with_reducible refine Below.setCell ?_ ?_ _ | with_reducible refine Below.atPut ?_ ?_ _ | (simp [go_sem]; done) | (simp [go_sem]; omega))) hm0 rfl (by repeat' (first | rfl | assumption | (with_reducible refine (heap_drew_eq _ _).trans ?_) | (refine (Fut.heap _ _ ?_).trans ?_ ; focus (first | assumption | omega | (simp [go_sem]; done) | (simp [go_sem]; omega))) | (refine (heap_put_at _ _ _ ?_).trans ?_ ; focus (first | assumption | omega | (simp [go_sem]; done) | (simp [go_sem]; omega))) | (refine (heap_put_other _ _ _ _ ?_).trans ?_ ; focus (first | assumption | omega | (simp [go_sem]; done) | (simp [go_sem]; omega))) | (refine (heap_alloc_other _ _ _ ?_).trans ?_ ; focus (first | assumption | omega | (simp [go_sem]; done) | (simp [go_sem]; omega))) | (refine (heap_alloc_at _ _ _ ?_).trans ?_ ; focus (first | assumption | omega | (simp [go_sem]; done) | (simp [go_sem]; omega))) | (simp [go_sem]; done) | (simp [go_sem]; omega)))) ?_; rintro _ W6 ⟨⟨a6, c6, rfl⟩, hr6, hc6, ho6⟩; have hp6 := (hc6.block bk hlo5 (by rw [HWB.out]; simp)).trans HP5.out; unfold bookObj at hp6; have hl6 := lt_of_heap hp6; have HR6 := hid hr6; have HC6 := hid hc6; have HO6 := hid ho6; clear hr6 hc6 ho6; rw [← put_self hp6]) | (go_simp; go_at_call 34; refine (copyItems_is (HXV.out.heap (show Below X.heap.size X _ from (by repeat' (first | exact Below.refl _ _ | with_reducible assumption | omega | with_reducible refine below_put_fut ?_ ?_ _ | with_reducible refine below_to_put ?_ | with_reducible refine Below.alloc ?_ ?_ _ | with_reducible refine Below.fut ?_ ?_ _ | with_reducible refine Below.drew ?_ | with_reducible refine Below.setCell ?_ ?_ _ | with_reducible refine Below.atPut ?_ ?_ _ | (simp [go_sem]; done) | (simp [go_sem]; omega))))) hm).mono ?_; rintro _ W5 ⟨a5, c5, rfl, hr5, hb5, hf5⟩; have HB5 := hid (show Below X.heap.size X W5 from (show Below X.heap.size X _ from (Below.refl _ X).drew).trans hb5); have HP5 := hid ((HB5.out.block _ hlX).trans HPX.out); have hco5 := fun i => cell_of_row W5 bk i _ _ (0, 0) HP5.out; have hlo5 := lt_of_heap HP5.out; have HWR5 := hid (owns_below HXW.out HB5.out); have HR5 := hid hr5; have HF5 := hid hf5; clear hr5 hb5 hf5; go_simp))
  all_goals
    go_wp2_with fail
    go_end0
    obtain ⟨c', k1, k2, k3⟩ := book_next HES.out HH.out HV.out HL.out hm HD.out HC4.out HR4.out HO4.out (by rw [← HXE.out, ← HZX.out]; exact HB5.out) HR5.out (by rw [← HZX.out]; exact HF5.out) HC6.out HR6.out HO6.out
    exact ⟨rfl, _, _, _, c', k1, k2, k3⟩
end Go.Proofs.YthknenhcnpgkcaaGreat
