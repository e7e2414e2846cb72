/- The book of lists: stillItems, putItems. -/
import Derived.Test.YthknenhcnpgkcaaGreatBk5
import Derived.Test.YthknenhcnpgkcaaGreatMd
import Derived.BigRegion
namespace Go.Proofs.YthknenhcnpgkcaaGreat
set_option linter.unusedVariables false
set_option linter.unusedSimpArgs false
open Go.RowKit
theorem list_cell {W : World} {io : Option Addr} {m ic i : Nat} {vs : List Value} {x : Value} (h : Row W 22 1 (.slice io m ic) m vs) (hx : vs[i]? = some x) : ∃ r, io = some ⟨r, 0, none⟩ ∧ W.cell? ⟨r, i, none⟩ = some x ∧ r < W.heap.size ∧ i < m := by
  have hi := (List.getElem?_eq_some_iff.1 hx).1
  have h1 := h.1
  obtain ⟨r, c', hv, _, hr⟩ := World.ownsRow.form h (by omega)
  obtain rfl : io = some ⟨r, 0, none⟩ := by injection hv
  exact ⟨r, rfl, by rw [h.cellAt _ (by omega)]; exact hx, hr, by omega⟩
set_option maxRecDepth 100000 in
set_option maxHeartbeats 4000000 in
theorem stillItems_is {W : World} {bk : Nat} {iv wv : Value} {es : List Kept} {c : Cnt} (h : Bk W bk iv wv es c) (hn : es.length ≤ 250) :
    Calls Tryz.prog 38 #[.pointer (some ⟨bk, 0, none⟩)] W (Makes (.bool true) W) := by
  obtain ⟨io, ic, rfl⟩ := owns_slice h.items
  obtain ⟨wo, wc, rfl⟩ := owns_slice h.was
  have hi := h.items
  have hw := h.was
  obtain ⟨m, hes⟩ : ∃ m, es.length = m := ⟨_, rfl⟩
  rw [hes] at hi hw hn h
  have hcb := fun i => cell_of_row W bk i _ _ (0, 0) h.heap
  have hbl := lt_of_heap h.heap
  have HE := hid h.each
  have HI := hid hi
  have HW := hid hw
  have HES := hid hes
  clear h hi hw hes
  go_enter Tryz.func38, Tryz.ntmps38
  go_wp2_with fail
  go_loopw [3] (fun x wr => ∃ i : Nat, i ≤ m ∧ x = .int .i64 i ∧ ∃ u : Fut W, wr = u.val) (fun x _ => m - (intOf x).toNat)
  case atStart => exact ⟨0, Nat.zero_le _, rfl, ⟨⟨_, (by repeat' (first | exact Below.refl _ _ | with_reducible assumption | omega | with_reducible refine below_put_fut ?_ ?_ _ | with_reducible refine below_to_put ?_ | with_reducible refine Below.alloc ?_ ?_ _ | with_reducible refine Below.fut ?_ ?_ _ | with_reducible refine Below.drew ?_ | with_reducible refine Below.setCell ?_ ?_ _ | with_reducible refine Below.atPut ?_ ?_ _ | (simp [go_sem]; done) | (simp [go_sem]; omega)))⟩, rfl⟩⟩
  case round =>
    obtain ⟨i, hi, rfl, u, rfl⟩ := hrel
    by_cases hlt : i < m
    · obtain ⟨q, hq⟩ : ∃ q, es[i]? = some q := ⟨_, List.getElem?_eq_getElem (by rw [HES.out]; exact hlt)⟩
      obtain ⟨q1, q2, q3⟩ := HE.out q (List.mem_of_getElem? hq)
      obtain ⟨r1, rfl, p1, l1, _⟩ := list_cell HI.out (i := i) (x := q.v) (by simp [hq])
      obtain ⟨r2, rfl, p2, l2, _⟩ := list_cell HW.out (i := i) (x := q.w) (by simp [hq])
      obtain ⟨vo, vc, ev⟩ := owns_slice q2
      obtain ⟨wo', wc', ew⟩ := owns_slice q3
      obtain ⟨n, hqn⟩ : ∃ n, q.xs.length = n := ⟨_, rfl⟩
      rw [ev, hqn] at q2
      rw [ew, hqn] at q3
      rw [ev, hqn] at p1
      rw [ew, hqn] at p2
      rw [hqn] at q1
      have Q2 := hid (q2.src (flat_one _))
      have Q3 := hid (q3.src (flat_one _))
      have QN := hid hqn
      clear q2 q3 ev ew hq hqn
      go_wp2_with (first | (go_at_call 12; ((with_reducible refine (same_is _ _ _ q.xs n QN.out (by omega) (Q2.out.heap (by repeat' (first | exact Below.refl _ _ | with_reducible assumption | omega | with_reducible refine below_put_fut ?_ ?_ _ | with_reducible refine below_to_put ?_ | with_reducible refine Below.alloc ?_ ?_ _ | with_reducible refine Below.fut ?_ ?_ _ | with_reducible refine Below.drew ?_ | with_reducible refine Below.setCell ?_ ?_ _ | with_reducible refine Below.atPut ?_ ?_ _ | (simp [go_sem]; done) | (simp [go_sem]; omega)))) (Q3.out.heap (by repeat' (first | exact Below.refl _ _ | with_reducible assumption | omega | with_reducible refine below_put_fut ?_ ?_ _ | with_reducible refine below_to_put ?_ | with_reducible refine Below.alloc ?_ ?_ _ | with_reducible refine Below.fut ?_ ?_ _ | with_reducible refine Below.drew ?_ | with_reducible refine Below.setCell ?_ ?_ _ | with_reducible refine Below.atPut ?_ ?_ _ | (simp [go_sem]; done) | (simp [go_sem]; omega))))).mono ?_)); rintro _ _ ⟨rfl, u, rfl⟩; (try (rw [Fut.put_self u (by first | assumption | (simp [go_sem]; done) | (simp [go_sem]; omega))]))) | (((with_reducible refine wp_region_fut_lit (by kernel_rfl) (by kernel_rfl) ?_)); (repeat (go_big_quiet_step ((first | (go_at_call 12; with_reducible exact Calls.fut_of (same_is _ _ _ q.xs n QN.out (by omega) (Q2.out.heap (by repeat' (first | exact Below.refl _ _ | with_reducible assumption | omega | with_reducible refine below_put_fut ?_ ?_ _ | with_reducible refine below_to_put ?_ | with_reducible refine Below.alloc ?_ ?_ _ | with_reducible refine Below.fut ?_ ?_ _ | with_reducible refine Below.drew ?_ | with_reducible refine Below.setCell ?_ ?_ _ | with_reducible refine Below.atPut ?_ ?_ _ | (simp [go_sem]; done) | (simp [go_sem]; omega)))) (Q3.out.heap (by repeat' (first | exact Below.refl _ _ | with_reducible assumption | omega | with_reducible refine below_put_fut ?_ ?_ _ | with_reducible refine below_to_put ?_ | with_reducible refine Below.alloc ?_ ?_ _ | with_reducible refine Below.fut ?_ ?_ _ | with_reducible refine Below.drew ?_ | with_reducible refine Below.setCell ?_ ?_ _ | with_reducible refine Below.atPut ?_ ?_ _ | (simp [go_sem]; done) | (simp [go_sem]; omega)))))))))); ((with_reducible refine wpQuiet_nil ?_)); rintro _ ⟨u, rfl⟩; (try (rw [Fut.put_self u (by first | assumption | (simp [go_sem]; done) | (simp [go_sem]; omega))]))))
      go_roundw
      case rel => exact ⟨i + 1, by omega, by go_num, ⟨⟨_, (by repeat' (first | exact Below.refl _ _ | with_reducible assumption | omega | with_reducible refine below_put_fut ?_ ?_ _ | with_reducible refine below_to_put ?_ | with_reducible refine Below.alloc ?_ ?_ _ | with_reducible refine Below.fut ?_ ?_ _ | with_reducible refine Below.drew ?_ | with_reducible refine Below.setCell ?_ ?_ _ | with_reducible refine Below.atPut ?_ ?_ _ | (simp [go_sem]; done) | (simp [go_sem]; omega)))⟩, rfl⟩⟩
      case measure => simp [intOf]; omega
    · go_wp2_with (first | (((with_reducible refine wp_region_fut_lit (by kernel_rfl) (by kernel_rfl) ?_)); (repeat (go_big_quiet_step ((first | fail)))); ((with_reducible refine wpQuiet_nil ?_)); rintro _ ⟨u, rfl⟩; (try (rw [Fut.put_self u (by first | assumption | (simp [go_sem]; done) | (simp [go_sem]; omega))]))))
      go_ret; exact .mk (by first | rfl | (simp; done) | (simp; omega)) (by repeat' (first | exact Below.refl _ _ | with_reducible assumption | omega | with_reducible refine below_put_fut ?_ ?_ _ | with_reducible refine below_to_put ?_ | with_reducible refine Below.alloc ?_ ?_ _ | with_reducible refine Below.fut ?_ ?_ _ | with_reducible refine Below.drew ?_ | with_reducible refine Below.setCell ?_ ?_ _ | with_reducible refine Below.atPut ?_ ?_ _ | (simp [go_sem]; done) | (simp [go_sem]; omega)))
/-- Where the lists that are kept lie: apart from the book, from its row, and from one another. -/
structure Dis (bk : Nat) (iv : Value) (es : List Kept) : Prop where
  small : ∀ (j : Nat) (q : Kept), es[j]? = some q → q.xs.length ≤ 900
  book : ∀ (j : Nat) (q : Kept), es[j]? = some q → blk q.v bk = 0
  row : ∀ (j : Nat) (q : Kept) (k : Nat), es[j]? = some q → blk q.v k ≠ 0 → blk iv k = 0
  two : ∀ (i j : Nat) (p q : Kept) (k : Nat), i ≠ j → es[i]? = some p → es[j]? = some q → blk p.v k ≠ 0 → blk q.v k = 0
  rowbk : blk iv bk = 0
theorem sumK_two : ∀ {es : List Kept} {i j : Nat} {p q : Kept} (k : Nat), i < j → es[i]? = some p → es[j]? = some q → blk p.v k + blk q.v k ≤ sumK es k
  | r :: es, 0, j + 1, p, q, k, _, hp, hq => by
    simp at hp hq
    subst hp
    have := sumK_mem (List.mem_of_getElem? hq) k
    simp only [sumK]; omega
  | r :: es, i + 1, j + 1, p, q, k, h, hp, hq => by
    simp at hp hq
    have := sumK_two k (by omega : i < j) hp hq
    simp only [sumK]; omega
theorem Bk.dis {W : World} {bk : Nat} {iv wv : Value} {es : List Kept} {c : Cnt} (h : Bk W bk iv wv es c) : Dis bk iv es := by
  have hb : ∀ k, one bk k + (blk iv k + (blk wv k + sumK es k)) ≤ 1 := fun k => by rw [← h.cnt k]; exact h.le k
  refine ⟨fun j q hq => (h.each q (List.mem_of_getElem? hq)).1, fun j q hq => ?_, fun j q k hq hk => ?_, fun i j p q k hij hp hq hk => ?_, ?_⟩
  · have h1 := hb bk; rw [one_self] at h1; have := sumK_mem (List.mem_of_getElem? hq) bk; omega
  · have h1 := hb k; have := sumK_mem (List.mem_of_getElem? hq) k; omega
  · have h1 := hb k
    rcases Nat.lt_or_gt_of_ne hij with e | e
    · have := sumK_two k e hp hq; omega
    · have := sumK_two k e hq hp; omega
  · have h1 := hb bk; rw [one_self] at h1; omega
/-- The blocks of the lists. -/
def SV (es : List Kept) (k : Nat) : Prop := ∃ (j : Nat) (q : Kept), es[j]? = some q ∧ blk q.v k ≠ 0
/-- The first i lists are marked. -/
def MarkedTo (W : World) (es : List Kept) (i : Nat) (wr : World) : Prop :=
  Chg (SV es) W wr ∧ (∀ (j : Nat) (q : Kept), j < i → es[j]? = some q → Row wr 59 2 q.v q.xs.length (flat (marks j 0 q.xs.length))) ∧ ∀ (j : Nat) (q : Kept), i ≤ j → es[j]? = some q → Row wr 59 2 q.v q.xs.length (flat q.xs)
theorem MarkedTo.chg {W : World} {es : List Kept} {i : Nat} {wr w' : World} (h : MarkedTo W es i wr) (hb : Below wr.heap.size wr w') : MarkedTo W es i w' :=
  ⟨h.1.trans (Chg.of_below (S := SV es) hb) (fun _ _ h => h), fun j q hj hq => owns_below (h.2.1 j q hj hq) hb, fun j q hj hq => owns_below (h.2.2 j q hj hq) hb⟩
theorem MarkedTo.next {W : World} {bk : Nat} {iv : Value} {es : List Kept} (hd : Dis bk iv es) {i : Nat} {wr w' : World} {q : Kept} (h : MarkedTo W es i wr) (hq : es[i]? = some q) (hc : Chg (fun k => blk q.v k ≠ 0) wr w') (hr : Row w' 59 2 q.v q.xs.length (flat (marks i 0 q.xs.length))) : MarkedTo W es (i + 1) w' := by
  refine ⟨h.1.trans hc (fun k _ hk => ⟨i, q, hq, hk⟩), fun j p hj hp => ?_, fun j p hj hp => ?_⟩
  · by_cases e : j = i
    · subst e; rw [hq] at hp; cases hp; exact hr
    · exact (h.2.1 j p (by omega) hp).chg hc fun k hk h2 => h2 (hd.two j i p q k e hp hq hk)
  · exact (h.2.2 j p (by omega) hp).chg hc fun k hk h2 => h2 (hd.two j i p q k (by omega) hp hq hk)
end Go.Proofs.YthknenhcnpgkcaaGreat
