import Derived.Test.YthknenhcnpgkcaaFil1
import Derived.Deep.Cut
import Derived.Deep.DeepCutAuto
/- rosarylaw5.Filled. -/
namespace Go.Proofs.Ythknenhcnpgkcaa
open Go.RowKit
set_option linter.unusedVariables false
set_option linter.unusedSimpArgs false
theorem refNew_is (W : World) (m : Int) (r : Int) (hr : min (max m 0) 200 = r) : Calls Try.prog 53 #[.int .i64 m] W fun e W' => e = .returned (.pointer (some ⟨W.heap.size, 0, none⟩)) ∧ W' = W.alloc (refObj r (.slice none 0 0)) := by
  subst hr
  go_enter Try.func53, Try.ntmps53
  go_wp2_with fail
  all_goals go_ret
  all_goals refine ⟨rfl, ?_⟩
  all_goals congr 3
  all_goals simp
  all_goals omega
theorem both_new {B : Nat} {w0 : World} {gs : Nat} {W : World} (h : Sh B w0 200 [] gs W) :
    Calls Try.prog 53 #[.int .i64 200] W fun e W' => e = .returned (.pointer (some ⟨W.heap.size, 0, none⟩)) ∧ Both B w0 [] [] gs W.heap.size W' := by
  have hB := h.ge
  obtain ⟨h1, c, top, h2, h3⟩ := h
  refine (refNew_is W 200 200 (by decide)).mono ?_
  rintro _ _ ⟨rfl, rfl⟩
  have hb : Below W.heap.size W (W.alloc (refObj 200 (.slice none 0 0))) := (Below.refl _ _).alloc (Nat.le_refl _) _
  refine ⟨rfl, h1.trans (hb.mono hB), Nat.le_trans hB hb.size, List.Pairwise.nil, c, top, .slice none 0 0, h2.on hb, heap_alloc_at _ _ _ rfl, World.ownsRow_nil _ _ _ _, fun k => ?_, fun k hk => ?_⟩
  · rw [blk_nil]
    by_cases e : one W.heap.size k = 0
    · have := h2.le k; omega
    · have hk := one_ne e
      have h0 : c k = 0 := by
        rcases Nat.eq_zero_or_pos (c k) with z | z
        · exact z
        · have := h2.lt k (by omega); omega
      have := one_le W.heap.size k
      omega
  · rw [blk_nil] at hk
    by_cases e : c k = 0
    · have hk' := one_ne (show one W.heap.size k ≠ 0 by omega); omega
    · exact h3 k e
/-- What is in a shelf of 200 items into which a list was put. -/
def fillL (l : List It) : List It := l.foldl (fun xs i => (putL 200 i.1 i.2 xs).2) []
theorem fillL_snoc (l : List It) (x : It) : fillL (l ++ [x]) = (putL 200 x.1 x.2 (fillL l)).2 := by simp [fillL]
theorem fold_rises : ∀ (l acc : List It), Rises acc → Rises (l.foldl (fun xs i => (putL 200 i.1 i.2 xs).2) acc)
  | [], _, h => h
  | x :: l, acc, h => fold_rises l _ (putL_rises h)
theorem fillL_rises (l : List It) : Rises (fillL l) := fold_rises l [] List.Pairwise.nil
theorem putL_len (most : Int) (k v : ByteArray) (xs : List It) : (putL most k v xs).2.length ≤ xs.length + 1 := by
  unfold putL
  split
  · dsimp only; omega
  · split
    · dsimp only; omega
    · split
      · dsimp only; rw [repL_length]; omega
      · split
        · dsimp only; omega
        · dsimp only; rw [insL_length]; exact Nat.le_refl _
theorem fold_len : ∀ (l acc : List It), (l.foldl (fun xs i => (putL 200 i.1 i.2 xs).2) acc).length ≤ acc.length + l.length
  | [], _ => Nat.le_refl _
  | x :: l, acc => by
    have h1 := fold_len l (putL 200 x.1 x.2 acc).2
    have h2 := putL_len 200 x.1 x.2 acc
    rw [List.foldl_cons, List.length_cons]
    omega
theorem fillL_len (l : List It) : (fillL l).length ≤ l.length := by have := fold_len l []; simpa [fillL] using this
theorem putL_long {most : Int} {k v : ByteArray} {xs : List It} (h : ¬ (k.size ≤ 40 ∧ v.size ≤ 40)) : (putL most k v xs).2 = xs := by
  unfold putL
  by_cases c : k.size < 1 ∨ 16 < k.size
  · rw [if_pos c]
  · rw [if_neg c, if_pos (by omega)]
set_option maxRecDepth 100000 in
set_option maxHeartbeats 4000000 in
theorem filled_is (W : World) (sl : Value) (l : List It) (n : Nat) (hl : l.length = n) (hn : n ≤ 60) (hs : Src W 2 sl n (flat l)) :
    Calls Try.prog 34 #[sl] W fun e W' => ∃ gs gr, e = .returned (.tuple #[.pointer (some ⟨gs, 0, none⟩), .pointer (some ⟨gr, 0, none⟩)]) ∧ Both W.heap.size W (fillL l) (fillL l) gs gr W' := by
  obtain ⟨ao, cap, rfl⟩ := hs.slice_of
  have HS := hid hs
  have HL := hid hl
  clear hs hl
  go_enter Try.func34, Try.ntmps34
  go_wp2_with fail
  have HSB := hid (fun (W' : World) (hb : Below W.heap.size W W') => HS.out.heap hb)
  clear HS
  (((with_reducible refine (sh_new W.heap.size W 200 200 (by decide) _ (Below.refl _ _) (Nat.le_refl _)).mono ?_)); rintro _ W1 ⟨rfl, h1⟩)
  generalize hBW : W.heap.size = B at h1 HSB ⊢
  have HBW := hid hBW
  clear hBW
  go_wp2_with fail
  (((with_reducible refine (both_new h1).mono ?_)); rintro _ W2 ⟨rfl, h2⟩)
  generalize W1.heap.size = gr at h2 ⊢
  have H2 := hid h2
  clear h1 h2
  go_wp2_with fail
  go_loopw [6] (fun x wr => ∃ i : Nat, i ≤ n ∧ x = .int .i64 i ∧ Hid (Both B W (fillL (l.take i)) (fillL (l.take i)) B gr wr)) (fun x _ => n - (intOf x).toNat)
  case atStart => exact ⟨0, Nat.zero_le _, rfl, H2⟩
  case round =>
    obtain ⟨i, hi, rfl, HB⟩ := hrel
    by_cases hlt : i < n
    · obtain ⟨x, hx⟩ : ∃ x, l[i]? = some x := ⟨l[i]'(by rw [HL.out]; exact hlt), List.getElem?_eq_getElem _⟩
      obtain ⟨b, o, rfl, p1, p2, p3⟩ := (show Src wr 2 (.slice ao l.length cap) l.length (flat l) by rw [HL.out]; exact HSB.out wr HB.out.1).at_ i x hx
      have l1 : b < wr.heap.size := World.block_lt_of_cell? _ _ p1
      have c60 : i < 60 := by omega
      have hsn := hid (show fillL (l.take (i + 1)) = (putL 200 x.1 x.2 (fillL (l.take i))).2 by rw [List.take_add_one, hx]; exact fillL_snoc _ _)
      have hle : (fillL (l.take i)).length ≤ 1000 := by have := fillL_len (l.take i); rw [List.length_take] at this; omega
      have hcell := hid (show ∀ (X : World), Below B W X → X.cell? ⟨b, o + i * 2, none⟩ = some (.string x.1) ∧ X.cell? ⟨b, o + (i * 2 + 1), none⟩ = some (.string x.2) ∧ X.cell? ⟨b, o + i * 2 + 1, none⟩ = some (.string x.2) from fun X hb => by
        obtain ⟨b2, o2, he, r1, r2, r3⟩ := (show Src X 2 (.slice (some ⟨b, o, none⟩) l.length cap) l.length (flat l) by rw [HL.out]; exact HSB.out X hb).at_ i x hx
        obtain ⟨rfl, rfl⟩ : b = b2 ∧ o = o2 := by injection he with he; injection he with h1 h2; exact ⟨h1, h2⟩
        exact ⟨r1, r2, r3⟩)
      have HLE := hid hle
      clear hx hle
      obtain ⟨s, t⟩ := x
      simp only at p1 p2 p3 hcell
      by_cases q : s.size ≤ 40 ∧ t.size ≤ 40
      · have d1 : decide ((s.size : Int) ≤ 40) = true := by simp; omega
        have d2 : decide ((t.size : Int) ≤ 40) = true := by simp; omega
        clear q
        go_wp2_with fail
        go_region_with (go_at_call 26; ((with_reducible refine (both_put (HB.out.on (by repeat' (first | exact Below.refl _ _ | with_reducible assumption | omega | with_reducible refine below_put_fut ?_ ?_ _ | with_reducible refine below_to_put ?_ | with_reducible refine Below.alloc ?_ ?_ _ | with_reducible refine Below.fut ?_ ?_ _ | with_reducible refine Below.drew ?_ | with_reducible refine Below.setCell ?_ ?_ _ | with_reducible refine Below.atPut ?_ ?_ _ | (simp [go_sem]; done) | (simp [go_sem]; omega)))) HLE.out s t).mono ?_)); rintro _ W3 ⟨rfl, h3⟩)
        all_goals
          have H3 := hid h3
          clear p1 p2 p3 l1 h3
          obtain ⟨p1, p2, p3⟩ := hcell.out W3 H3.out.1
          have l1 : b < W3.heap.size := World.block_lt_of_cell? _ _ p1
          go_wp2_with fail
          go_region_with (go_at_call 54; ((with_reducible refine (both_ref (H3.out.on (by repeat' (first | exact Below.refl _ _ | with_reducible assumption | omega | with_reducible refine below_put_fut ?_ ?_ _ | with_reducible refine below_to_put ?_ | with_reducible refine Below.alloc ?_ ?_ _ | with_reducible refine Below.fut ?_ ?_ _ | with_reducible refine Below.drew ?_ | with_reducible refine Below.setCell ?_ ?_ _ | with_reducible refine Below.atPut ?_ ?_ _ | (simp [go_sem]; done) | (simp [go_sem]; omega)))) HLE.out s t).mono ?_)); rintro _ W4 ⟨rfl, h4⟩)
        all_goals
          have H4 := hid (show Both B W (fillL (l.take (i + 1))) (fillL (l.take (i + 1))) B gr W4 by rw [hsn.out]; exact h4)
          clear h4 p1 p2 p3
          go_wp2
          go_roundw
          case rel => exact ⟨i + 1, by omega, by go_num, H4⟩
          case measure => simp [intOf]; omega
      · have H4 := hid (show Both B W (fillL (l.take (i + 1))) (fillL (l.take (i + 1))) B gr wr by rw [hsn.out, putL_long q]; exact HB.out)
        by_cases q1 : s.size ≤ 40
        · have d1 : decide ((s.size : Int) ≤ 40) = true := by simp; omega
          have d2 : decide ((t.size : Int) ≤ 40) = false := by simp; omega
          clear q q1
          go_wp2_with (first | (((with_reducible refine wp_region_fut_lit (by kernel_rfl) (by kernel_rfl) ?_)); (repeat (go_big_quiet_step ((first | fail)))); ((with_reducible refine wpQuiet_nil ?_)); rintro _ ⟨u, rfl⟩; (try (rw [Fut.put_self u (by first | assumption | (simp [go_sem]; done) | (simp [go_sem]; omega))]))))
          go_roundw
          case rel => exact ⟨i + 1, by omega, by go_num, H4⟩
          case measure => simp [intOf]; omega
        · have d1 : decide ((s.size : Int) ≤ 40) = false := by simp; omega
          clear q q1
          go_wp2_with (first | (((with_reducible refine wp_region_fut_lit (by kernel_rfl) (by kernel_rfl) ?_)); (repeat (go_big_quiet_step ((first | fail)))); ((with_reducible refine wpQuiet_nil ?_)); rintro _ ⟨u, rfl⟩; (try (rw [Fut.put_self u (by first | assumption | (simp [go_sem]; done) | (simp [go_sem]; omega))]))))
          go_roundw
          case rel => exact ⟨i + 1, by omega, by go_num, H4⟩
          case measure => simp [intOf]; omega
    · obtain rfl : n = i := by omega
      have hfin := hid (show Both B W (fillL l) (fillL l) B gr wr by have := HB.out; rwa [List.take_of_length_le (by rw [HL.out]; exact Nat.le_refl _)] at this)
      go_wp2_with (first | (((with_reducible refine wp_region_fut_lit (by kernel_rfl) (by kernel_rfl) ?_)); (repeat (go_big_quiet_step ((first | fail)))); ((with_reducible refine wpQuiet_nil ?_)); rintro _ ⟨u, rfl⟩; (try (rw [Fut.put_self u (by first | assumption | (simp [go_sem]; done) | (simp [go_sem]; omega))]))))
      go_ret2
      rw [HBW.out]
      exact ⟨_, _, rfl, hfin.out⟩
end Go.Proofs.Ythknenhcnpgkcaa
