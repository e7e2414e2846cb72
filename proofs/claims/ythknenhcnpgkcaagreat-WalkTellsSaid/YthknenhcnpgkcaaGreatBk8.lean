/- The book of lists: growItems. -/
import Derived.Test.YthknenhcnpgkcaaGreatBk7
namespace Go.Proofs.YthknenhcnpgkcaaGreat
set_option linter.unusedVariables false
set_option linter.unusedSimpArgs false
open Go.RowKit
theorem two_rows {W : World} {e : TypeId} {size n n' c c' : Nat} {ao ao' : Option Addr} {xs xs' : List Value} (hs : 0 < size) (h : Row W e size (.slice ao n c) n xs) (h' : Row W e size (.slice ao' n' c') n' xs') {k : Nat} (hk : blk (.slice ao n c) k ≠ 0) (hk' : blk (.slice ao' n' c') k ≠ 0) : ao = ao' ∧ c = c' := by
  rcases h.2 with ⟨e1, _⟩ | ⟨g, cap, cur, e1, _, h2, _, _, h5, _⟩
  · rw [e1, blk_nil] at hk; exact (hk rfl).elim
  · rcases h'.2 with ⟨e1', _⟩ | ⟨g', cap', cur', e1', _, h2', _, _, h5', _⟩
    · rw [e1', blk_nil] at hk'; exact (hk' rfl).elim
    · rw [e1, blk_at _ _ _ _ _ none] at hk
      rw [e1', blk_at _ _ _ _ _ none] at hk'
      obtain rfl := one_ne hk
      obtain rfl := one_ne hk'
      rw [h2] at h2'
      cases h2'
      have : c * size = c' * size := by cases e1; cases e1'; omega
      have := Nat.eq_of_mul_eq_mul_right hs this
      cases e1
      cases e1'
      exact ⟨rfl, this⟩
theorem grow_one {A X Y : World} {qv l l' : Value} {n s m i : Nat} (h1 : Chg (fun k => blk qv k ≠ 0) A X) (h2 : Row X 59 2 l s (flat (marks i 0 s))) (hns : n ≤ s) (h3 : Row X 59 2 qv n (flat (marks i 0 n))) (h4 : ∀ k, k < A.heap.size → blk l k ≤ blk qv k)
    (r : Row Y 59 2 l' (s + m) (flat (marks i 0 s ++ marks i s m))) (hor : (∃ ao c, l = .slice ao s c ∧ l' = .slice ao (s + m) c ∧ Chg (fun k => blk l k ≠ 0) X Y) ∨ ((∀ k, k < X.heap.size → blk l' k = 0) ∧ Below X.heap.size X Y)) :
    Chg (fun k => blk qv k ≠ 0) A Y ∧ Row Y 59 2 l' (s + m) (flat (marks i 0 (s + m))) ∧ Row Y 59 2 qv n (flat (marks i 0 n)) ∧ ∀ k, k < A.heap.size → blk l' k ≤ blk qv k := by
  rw [marks_more] at r
  rcases hor with ⟨ao, c, rfl, rfl, hc⟩ | ⟨hf, hb⟩
  · refine ⟨h1.trans hc (fun k hk hn => by have := h4 k hk; omega), r, ?_, fun k hk => ?_⟩
    · by_cases hsh : ∃ k, blk (.slice ao s c) k ≠ 0 ∧ blk qv k ≠ 0
      · obtain ⟨k, k1, k2⟩ := hsh
        obtain ⟨aq, cq, rfl⟩ := owns_slice h3
        obtain ⟨rfl, rfl⟩ := two_rows (by omega) h2 h3 k1 k2
        have := r.ahead (m := n) (by omega)
        rw [flat_take, marks_take i 0 (by omega)] at this
        exact this
      · exact h3.chg hc fun k hk h => hsh ⟨k, h, hk⟩
    · have := h4 k hk
      have e : blk (.slice ao (s + m) c) k = blk (.slice ao s c) k := by unfold blk; cases ao <;> rfl
      omega
  · refine ⟨h1.trans (Chg.of_below (S := fun k => blk qv k ≠ 0) hb) (fun _ _ h => h), r, owns_below h3 hb, fun k hk => ?_⟩
    rw [hf k (Nat.lt_of_lt_of_le hk h1.size)]
    exact Nat.zero_le _
/-- The first i lists are grown. -/
structure GrownTo (W : World) (es : List Kept) (i : Nat) (gs : List Value) (out : Value) (wr : World) : Prop where
  chg : Chg (SV es) W wr
  row : Row wr 22 1 out i gs
  new : ∀ k, k < W.heap.size → blk out k = 0
  olds : ∀ (j : Nat) (q : Kept), es[j]? = some q → Row wr 59 2 q.v q.xs.length (flat (marks j 0 q.xs.length))
  each : ∀ (j : Nat) (q : Kept) (g : Value), es[j]? = some q → gs[j]? = some g → Row wr 59 2 g (q.xs.length + 72) (flat (marks j 0 (q.xs.length + 72))) ∧ (∀ k, k < W.heap.size → blk g k ≤ blk q.v k) ∧ ∀ k, blk g k ≠ 0 → blk out k = 0
theorem GrownTo.next {W : World} {bk : Nat} {iv : Value} {es : List Kept} (hd : Dis bk iv es) (h0 : ∀ (j : Nat) (q : Kept), es[j]? = some q → ∀ k, blk q.v k ≠ 0 → k < W.heap.size) {i : Nat} {gs : List Value} {out out' g : Value} {wr w5 w6 : World} {q : Kept} (h : GrownTo W es i gs out wr) (hq : es[i]? = some q)
    (hg : Chg (fun k => blk q.v k ≠ 0) wr w5 ∧ Row w5 59 2 g (q.xs.length + 72) (flat (marks i 0 (q.xs.length + 72))) ∧ Row w5 59 2 q.v q.xs.length (flat (marks i 0 q.xs.length)) ∧ ∀ k, k < wr.heap.size → blk g k ≤ blk q.v k)
    (hr : Row w6 22 1 out' (i + 1) (gs ++ [g])) (hc : Chg (fun k => blk out k ≠ 0) w5 w6) (ho : ∀ k, k < w5.heap.size → blk out' k ≤ blk out k) : GrownTo W es (i + 1) (gs ++ [g]) out' w6 := by
  obtain ⟨g1, g2, g3, g4⟩ := hg
  have zr := h.chg.size
  have z5 := g1.size
  have hgl : gs.length = i := by have := h.row.1; omega
  have hgo : ∀ k, blk g k ≠ 0 → blk out k = 0 := fun k hk => by
    rcases Nat.eq_zero_or_pos (blk out k) with e | e
    · exact e
    · have h1 := h.row.lt (k := k) (by omega)
      have h2 := g4 k h1
      have h3 := h0 i q hq k (by omega)
      have h4 := h.new k h3
      omega
  refine ⟨(h.chg.trans g1 (fun k _ hk => ⟨i, q, hq, hk⟩)).trans hc (fun k hk h2 => absurd (h.new k hk) h2), hr, fun k hk => ?_, fun j p hp => ?_, fun j p b hp hb => ?_⟩
  · have := ho k (by omega)
    have := h.new k hk
    omega
  · have hp5 : Row w5 59 2 p.v p.xs.length (flat (marks j 0 p.xs.length)) := by
      by_cases e : j = i
      · subst e; rw [hq] at hp; cases hp; exact g3
      · exact (h.olds j p hp).chg g1 fun k hk h2 => h2 (hd.two j i p q k e hp hq hk)
    exact hp5.chg hc fun k hk h2 => h2 (h.new k (h0 j p hp k hk))
  · by_cases e : j = i
    · subst e
      rw [hq] at hp
      cases hp
      rw [List.getElem?_append_right (by omega), hgl, Nat.sub_self] at hb
      obtain rfl : g = b := by simpa using hb
      refine ⟨g2.chg hc fun k hk h2 => h2 (hgo k hk), fun k hk => g4 k (by omega), fun k hk => ?_⟩
      have h1 := ho k (g2.lt hk)
      have h2 := hgo k hk
      omega
    · have hji : j < i := by
        have h1 := (List.getElem?_eq_some_iff.1 hb).1
        rw [List.length_append, hgl] at h1
        simp at h1
        omega
      rw [List.getElem?_append_left (by omega)] at hb
      obtain ⟨e1, e2, e3⟩ := h.each j p b hp hb
      have e5 : Row w5 59 2 b (p.xs.length + 72) (flat (marks j 0 (p.xs.length + 72))) := e1.chg g1 fun k hk h2 => by
        have h3 := h0 i q hq k h2
        have h4 := e2 k h3
        exact h2 (hd.two j i p q k e hp hq (by omega))
      refine ⟨e5.chg hc fun k hk h2 => h2 (e3 k hk), e2, fun k hk => ?_⟩
      have h1 := ho k (e5.lt hk)
      have h2 := e3 k hk
      omega
set_option maxRecDepth 100000 in
set_option maxHeartbeats 4000000 in
theorem growItems_is {W : World} {bk : Nat} {iv wv : Value} {es : List Kept} (hh : W.heap[bk]? = some (bookObj iv wv)) (hi : Row W 22 1 iv es.length (es.map Kept.v)) (hd : Dis bk iv es)
    (hr : ∀ (j : Nat) (q : Kept), es[j]? = some q → Row W 59 2 q.v q.xs.length (flat (marks j 0 q.xs.length))) (hn : es.length ≤ 250) :
    Calls Tryz.prog 52 #[.pointer (some ⟨bk, 0, none⟩)] W fun e W' => ∃ ao c gs, e = .returned (.slice ao es.length c) ∧ GrownTo W es es.length gs (.slice ao es.length c) W' := by
  obtain ⟨io, ic, rfl⟩ := owns_slice hi
  obtain ⟨m, hes⟩ : ∃ m, es.length = m := ⟨_, rfl⟩
  rw [hes] at hi hn hd hh ⊢
  have h0 : GrownTo W es 0 [] (.slice none 0 0) W := ⟨Chg.refl _ _, World.ownsRow_nil _ _ _ _, fun k _ => blk_nil _ _ _, hr, fun j q g hq hg => by simp at hg⟩
  have HES := hid hes
  have HD := hid hd
  have H0 := hid h0
  have HLT := hid (fun (j : Nat) (q : Kept) (hq : es[j]? = some q) (k : Nat) (hk : blk q.v k ≠ 0) => (hr j q hq).lt hk)
  have HBK := hid (fun (wr : World) (hc : Chg (SV es) W wr) => show wr.heap[bk]? = some (bookObj (.slice io m ic) wv) ∧ Row wr 22 1 (.slice io m ic) m (es.map Kept.v) from
    ⟨(hc.block bk (lt_of_heap hh) (fun ⟨j, q, h1, h2⟩ => h2 (hd.book j q h1))).trans hh, hi.chg hc fun k hk ⟨j, q, h1, h2⟩ => hk (hd.row j q k h1 h2)⟩)
  clear hh hi hes hr h0 hd
  go_enter Tryz.func52, Tryz.ntmps52
  go_wp2_with fail
  go_loopw [3, 4] (fun o x wr => ∃ (i : Nat) (ao : Option Addr) (c : Nat) (gs : List Value), i ≤ m ∧ x = .int .i64 i ∧ o = .slice ao i c ∧ Hid (GrownTo W es i gs (.slice ao i c) wr)) (fun _ x _ => m - (intOf x).toNat)
  case atStart => exact ⟨0, none, 0, [], Nat.zero_le _, rfl, rfl, H0⟩
  case round =>
    obtain ⟨i, ao, c, gs, hi, rfl, rfl, HM⟩ := hrel
    have hcb := fun j => cell_of_row wr bk j _ _ (0, 0) (HBK.out wr HM.out.chg).1
    have hbl := lt_of_heap (HBK.out wr HM.out.chg).1
    by_cases hlt : i < m
    · obtain ⟨q, hq⟩ : ∃ q, es[i]? = some q := ⟨_, List.getElem?_eq_getElem (by rw [HES.out]; exact hlt)⟩
      have q1 := HD.out.small i q hq
      have q2 := HM.out.olds i q hq
      obtain ⟨r1, hr1, p1, l1, _⟩ := list_cell (HBK.out wr HM.out.chg).2 (i := i) (x := q.v) (by simp [hq])
      subst hr1
      obtain ⟨vo, vc, ev⟩ := owns_slice q2
      obtain ⟨n, hqn⟩ : ∃ n, q.xs.length = n := ⟨_, rfl⟩
      rw [hqn] at ev q2 q1
      rw [ev] at p1
      have HQ := hid hq
      have HQN := hid hqn
      have HEV := hid ev
      have HQ2 := hid q2
      obtain ⟨w0, hw0⟩ : ∃ w0, w0 = wr := ⟨_, rfl⟩
      have HG0 := hid (show Chg (fun k => blk q.v k ≠ 0) w0 wr ∧ Row wr 59 2 (.slice vo n vc) n (flat (marks i 0 n)) ∧ Row wr 59 2 q.v n (flat (marks i 0 n)) ∧ ∀ k, k < w0.heap.size → blk (.slice vo n vc) k ≤ blk q.v k from ⟨by rw [hw0]; exact Chg.refl _ _, by rw [← ev]; exact q2, q2, fun k _ => by rw [ev]; exact Nat.le_refl _⟩)
      rw [← hw0] at HM
      clear hq hqn ev q2 hw0
      go_wp2_with fail
      go_loopw [5, 6] (fun l x wx => ∃ (s t : Nat) (al : Option Addr) (cl : Nat), s ≤ 12 ∧ t = n + s ∧ x = .int .i64 s ∧ l = .slice al t cl ∧ Hid (Chg (fun k => blk q.v k ≠ 0) w0 wx ∧ Row wx 59 2 (.slice al t cl) t (flat (marks i 0 t)) ∧ Row wx 59 2 q.v n (flat (marks i 0 n)) ∧ ∀ k, k < w0.heap.size → blk (.slice al t cl) k ≤ blk q.v k)) (fun _ x _ => 12 - (intOf x).toNat)
      case atStart => exact ⟨0, n, vo, vc, by omega, rfl, rfl, rfl, HG0⟩
      case round =>
        obtain ⟨s, t, al, cl, hs, ht, rfl, rfl, HG⟩ := hrel
        clear hcb hbl p1 l1
        have HT := hid ht
        by_cases hlt2 : s < 12
        · have hmk : Calls Tryz.prog 85 #[.int .i64 i, .int .i64 t, .int .i64 1] wr _ := markItems_is wr i t 1 (by omega) (by omega)
          have HMK := hid hmk
          clear hmk ht
          go_wp2_with (first | (go_at_call 85; refine HMK.out.mono ?_; rintro _ W3 ⟨mo, mc, rfl, hr3, hb3, hf3⟩; have HS3 := hid (hr3.src (flat_one _)); have HB3 := hid hb3; clear hr3 hb3 hf3) | (at_builtin; refine wpList_append_ex (by rfl) _ _ _ (by rfl) _ _ (by rfl) (by rfl) (items_two (xs := marks i 0 t) (ys := marks i t 1) (n := t) (m := 1) HG.out.2.1 HB3.out (HS3.out.heap (by repeat' (first | exact Below.refl _ _ | with_reducible assumption | omega | with_reducible refine below_put_fut ?_ ?_ _ | with_reducible refine below_to_put ?_ | with_reducible refine Below.alloc ?_ ?_ _ | with_reducible refine Below.fut ?_ ?_ _ | with_reducible refine Below.drew ?_ | with_reducible refine Below.setCell ?_ ?_ _ | with_reducible refine Below.atPut ?_ ?_ _ | (simp [go_sem]; done) | (simp [go_sem]; omega)))) (by have := HT.out; omega)) ?_; rintro v4 w4 ⟨⟨a4, c4, rfl⟩, hr4, hor4⟩; have HG4 := hid (grow_one HG.out.1 HG.out.2.1 (by have := HT.out; omega) HG.out.2.2.1 HG.out.2.2.2 hr4 hor4); clear hr4 hor4))
          exact ⟨⟨s + 1, t + 1, a4, c4, by omega, by have := HT.out; omega, by go_num, rfl, HG4⟩, by simp [intOf]; omega⟩
        · obtain rfl : s = 12 := by omega
          have hmk : Calls Tryz.prog 85 #[.int .i64 i, .int .i64 t, .int .i64 60] wr _ := markItems_is wr i t 60 (by omega) (by omega)
          have HMK := hid hmk
          have hi0 : i ≤ 1000 := by omega
          clear hmk ht
          go_wp2_with (first | (go_at_call 85; refine HMK.out.mono ?_; rintro _ W3 ⟨mo, mc, rfl, hr3, hb3, hf3⟩; have HS3 := hid (hr3.src (flat_one _)); have HB3 := hid hb3; clear hr3 hb3 hf3) | (at_builtin; have hO4 := HO4.out; refine wpList_append_ex (by rfl) _ _ _ (by rfl) _ _ (by rfl) (by rfl) (list_app (x := .slice a4 (t + 60) c4) HO4.out (by repeat' (first | exact Below.refl _ _ | with_reducible assumption | omega | with_reducible refine below_put_fut ?_ ?_ _ | with_reducible refine below_to_put ?_ | with_reducible refine Below.alloc ?_ ?_ _ | with_reducible refine Below.fut ?_ ?_ _ | with_reducible refine Below.drew ?_ | with_reducible refine Below.setCell ?_ ?_ _ | with_reducible refine Below.atPut ?_ ?_ _ | (simp [go_sem]; done) | (simp [go_sem]; omega))) hi0 rfl (by repeat' (first | rfl | assumption | (with_reducible refine (heap_drew_eq _ _).trans ?_) | (refine (Fut.heap _ _ ?_).trans ?_ ; focus (first | assumption | omega | (simp [go_sem]; done) | (simp [go_sem]; omega))) | (refine (heap_put_at _ _ _ ?_).trans ?_ ; focus (first | assumption | omega | (simp [go_sem]; done) | (simp [go_sem]; omega))) | (refine (heap_put_other _ _ _ _ ?_).trans ?_ ; focus (first | assumption | omega | (simp [go_sem]; done) | (simp [go_sem]; omega))) | (refine (heap_alloc_other _ _ _ ?_).trans ?_ ; focus (first | assumption | omega | (simp [go_sem]; done) | (simp [go_sem]; omega))) | (refine (heap_alloc_at _ _ _ ?_).trans ?_ ; focus (first | assumption | omega | (simp [go_sem]; done) | (simp [go_sem]; omega))) | (simp [go_sem]; done) | (simp [go_sem]; omega)))) ?_; rintro v6 w6 ⟨⟨a6, c6, rfl⟩, hr6, hc6, ho6⟩) | ((at_builtin; refine wpList_append_ex (by rfl) _ _ _ (by rfl) _ _ (by rfl) (by rfl) (items_two (xs := marks i 0 t) (ys := marks i t 60) (n := t) (m := 60) HG.out.2.1 HB3.out (HS3.out.heap (by repeat' (first | exact Below.refl _ _ | with_reducible assumption | omega | with_reducible refine below_put_fut ?_ ?_ _ | with_reducible refine below_to_put ?_ | with_reducible refine Below.alloc ?_ ?_ _ | with_reducible refine Below.fut ?_ ?_ _ | with_reducible refine Below.drew ?_ | with_reducible refine Below.setCell ?_ ?_ _ | with_reducible refine Below.atPut ?_ ?_ _ | (simp [go_sem]; done) | (simp [go_sem]; omega)))) (by have := HT.out; omega)) ?_; rintro v4 w4 ⟨⟨a4, c4, rfl⟩, hr4, hor4⟩; have HG4 := hid (grow_one HG.out.1 HG.out.2.1 (by have := HT.out; omega) HG.out.2.2.1 HG.out.2.2.2 hr4 hor4); clear hr4 hor4); have HO4 := hid (show Row w4 22 1 (.slice ao i c) i gs from HM.out.row.chg HG4.out.1 (fun k hk h2 => hk (HM.out.new k (HLT.out i q HQ.out k h2))))))
          have ht2 : t + 60 = n + 72 := by have := HT.out; omega
          have HG5 := HG4.out
          rw [ht2] at HG5 hr6
          rw [← HQN.out] at HG5 hr6
          have HM6 := hid (HM.out.next HD.out HLT.out HQ.out HG5 hr6 hc6 ho6)
          exact ⟨⟨i + 1, a6, c6, _, by omega, by go_num, rfl, HM6⟩, by simp [intOf]; omega⟩
    · obtain rfl : i = m := by omega
      go_wp2_with fail
      go_ret
      exact ⟨ao, c, gs, rfl, HM.out⟩
end Go.Proofs.YthknenhcnpgkcaaGreat
