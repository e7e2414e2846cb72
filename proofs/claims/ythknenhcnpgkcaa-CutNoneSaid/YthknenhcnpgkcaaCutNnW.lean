/- CutNone answers true for every two lists of items, every place and every item: the walk. -/
import Derived.Test.YthknenhcnpgkcaaCut9
import Derived.Deep.RegionHeld3
namespace Go.Proofs.Ythknenhcnpgkcaa
open Go.RowKit Go.Shelf
set_option linter.unusedVariables false
set_option linter.unusedSimpArgs false
theorem place_in (at_ : Int) (i : Nat) (hi : i ≤ 40) : ∃ kk : Nat, kk ≤ i ∧ (wrap64 (wrap64 (at_.tmod (↑i + 1) + ↑i) + 1)).tmod (↑i + 1) = (kk : Int) := by
  have h1 := Int.natAbs_tmod at_ ((i : Int) + 1)
  have h2 : at_.natAbs % ((i : Int) + 1).natAbs < ((i : Int) + 1).natAbs := Nat.mod_lt _ (by omega)
  generalize at_.tmod ((i : Int) + 1) = r at h1
  rw [← h1] at h2
  have e : wrap64 (wrap64 (r + ↑i) + 1) = r + ↑i + 1 := by unfold wrap64; omega
  rw [e]
  have h3 := Int.natAbs_tmod (r + ↑i + 1) ((i : Int) + 1)
  have h4 : (r + ↑i + 1).natAbs % ((i : Int) + 1).natAbs < ((i : Int) + 1).natAbs := Nat.mod_lt _ (by omega)
  have h5 : 0 ≤ (r + ↑i + 1).tmod ((i : Int) + 1) := Int.tmod_nonneg _ (by omega)
  exact ⟨((r + ↑i + 1).tmod ((i : Int) + 1)).toNat, by omega, by omega⟩
theorem app_first {W0 W : World} {sv : Value} {m : Nat} {zs : List It} (hb : Below W0.heap.size W0 W) (hs : Src W 2 sv m (flat zs)) (hm : m ≤ 1000) :
    ∃ v' W', (Builtin.append_ #[28, 28] 28 #[.slice none 0 0, sv]).run Try.prog W = .ok v' W' ∧ ∃ ao c, v' = .slice ao m c ∧ Row W' 34 2 (.slice ao m c) m (flat zs) ∧ Below W.heap.size W W' ∧ Below W0.heap.size W0 W' ∧ ∀ k, k < W0.heap.size → blk (.slice ao m c) k = 0 := by
  obtain ⟨v', W', h1, ⟨ao, c, rfl⟩, h3, h4, h5⟩ := append_to (W := W) (W2 := W) (v := .slice none 0 0) (n := 0) (ys := []) (World.ownsRow_nil _ _ _ _) (Below.refl _ _) hs (by omega)
  rw [Nat.zero_add] at h1 h3 h5
  have hB : Below W.heap.size W W' := h4.below (Nat.le_refl _) fun k hk => by simp at hk
  refine ⟨_, W', h1, ao, c, rfl, h3, hB, hb.trans (hB.mono hb.size), fun k hk => ?_⟩
  have := h5 k (Nat.lt_of_lt_of_le hk hb.size)
  simp at this
  first | exact this | omega
theorem app_more {W0 W1 W : World} {v sv : Value} {n m r : Nat} {ys zs : List It} (h : Row W1 34 2 v n (flat ys)) (hb0 : Below W0.heap.size W0 W1) (hf : ∀ k, k < W0.heap.size → blk v k = 0) (hb : Below W1.heap.size W1 W) (hs : Src W 2 sv m (flat zs)) (hm : n + m ≤ 1000) (hr : n + m = r) :
    ∃ v' W', (Builtin.append_ #[28, 28] 28 #[v, sv]).run Try.prog W = .ok v' W' ∧ ∃ ao c, v' = .slice ao r c ∧ Row W' 34 2 (.slice ao r c) r (flat (ys ++ zs)) ∧ Below W0.heap.size W0 W' ∧ ∀ k, k < W0.heap.size → blk (.slice ao r c) k = 0 := by
  subst hr
  obtain ⟨v', W', h1, ⟨ao, c, rfl⟩, h3, h4, h5⟩ := append_to h hb hs (by omega)
  refine ⟨_, W', h1, ao, c, rfl, h3, ?_, fun k hk => ?_⟩
  · exact hb0.trans (h4.below hb0.size fun k hk => Nat.le_of_not_lt fun e => hk (hf k e))
  · have := h5 k (Nat.lt_of_lt_of_le hk hb0.size); have := hf k hk; omega
theorem insAll_bad {most : Int} {x : It} (hx : ∀ ys, (putL most x.1 x.2 ys).1 ≠ 0) : ∀ (A B ys : List It), (insAll most (A ++ x :: B) ys).1 ≠ 0
  | [], B, ys => by rw [List.nil_append, insAll, if_neg (hx ys)]; exact hx ys
  | a :: A, B, ys => by
    rw [List.cons_append, insAll]
    split
    · exact insAll_bad hx A B _
    · assumption
theorem putL_wrong {most : Int} {k v : ByteArray} (h : (k.size < 1 ∨ 16 < k.size) ∨ 16 < v.size) (ys : List It) : (putL most k v ys).1 ≠ 0 := by
  unfold putL
  split
  · show (3 : Int) ≠ 0; decide
  · rename_i c
    rw [if_pos (h.resolve_left c)]
    show (4 : Int) ≠ 0; decide
set_option maxRecDepth 100000 in
set_option maxHeartbeats 4000000 in
theorem cutNone_good (w : World) (sl sm : Value) (l : List It) (n : Nat) (hl : l.length = n) (hn : n ≤ 40) (hs : Src w 2 sl n (flat l)) (more : List It) (m : Nat) (hml : more.length = m) (hm : m ≤ 40) (hs2 : Src w 2 sm m (flat more)) (hcap : ∀ ao c, sm = .slice ao m c → m ≤ c)
    (at_ : Int) (bk bv : ByteArray) (hk : bk.size ≤ 60) (hv : bv.size ≤ 60) (hbad : (bk.size < 1 ∨ 16 < bk.size) ∨ 16 < bv.size) :
    Calls Try.prog 21 #[sl, sm, .int .i64 at_, .agg #[.string bk, .string bv]] w (Makes (.bool true) w) := by
  obtain ⟨ao, cap, rfl⟩ := hs.slice_of
  obtain ⟨am, cam, rfl⟩ := hs2.slice_of
  have hc := hcap am cam rfl
  have d1 : decide ((40 : Int) < n) = false := by simp; omega
  have d2 : decide ((40 : Int) < m) = false := by simp; omega
  have d3 : decide ((60 : Int) < bk.size) = false := by simp; omega
  have d4 : decide ((60 : Int) < bv.size) = false := by simp; omega
  have HS := hid hs
  have HL := hid hl
  have HS2 := hid hs2
  have HML := hid hml
  have HBAD := hid hbad
  clear hs hl hs2 hml hbad hcap
  go_enter Try.func21, Try.ntmps21
  go_wp2_with (first | (go_at_call 60; ((with_reducible refine (cutAlive_any _).mono ?_)); rintro _ _ ⟨rfl, u, rfl⟩; (try (rw [Fut.put_self u (by first | assumption | (simp [go_sem]; done) | (simp [go_sem]; omega))]))) | (((with_reducible refine wp_region_fut_lit (by kernel_rfl) (by kernel_rfl) ?_)); (repeat (go_big_quiet_step ((first | (go_at_call 60; with_reducible exact Calls.fut_of (cutAlive_any _)))))); ((with_reducible refine wpQuiet_nil ?_)); rintro _ ⟨u, rfl⟩; (try (rw [Fut.put_self u (by first | assumption | (simp [go_sem]; done) | (simp [go_sem]; omega))]))))
  clear d1 d2 d3 d4
  have hbX : Below w.heap.size w u.val := (by repeat' (first | exact Below.refl _ _ | with_reducible assumption | omega | with_reducible refine below_put_fut ?_ ?_ _ | with_reducible refine below_to_put ?_ | with_reducible refine Below.alloc ?_ ?_ _ | with_reducible refine Below.fut ?_ ?_ _ | with_reducible refine Below.drew ?_ | with_reducible refine Below.setCell ?_ ?_ _ | with_reducible refine Below.atPut ?_ ?_ _ | (simp [go_sem]; done) | (simp [go_sem]; omega)))
  have hzX := hbX.size
  have hc7 := (u.below.block w.heap.size (by simp)).trans (heap_alloc_at w (.cells #[.string bk, .string bv] 34) _ rfl)
  generalize u.val = X at hbX hzX hc7 ⊢
  have e1 := fun i => cell_of_row X w.heap.size i _ _ (0, 0) hc7
  have l1 := lt_of_heap hc7
  cases hkb : decide (bk.size < 1 ∨ 16 < bk.size) with
  | true =>
    go_wp2_with fail
    (((with_reducible refine (refKey_is _ bk true hkb).mono ?_)); rintro _ _ ⟨rfl, u2, rfl⟩)
    have hbY := hbX.trans (u2.below.mono hzX)
    have hcY := (u2.below.block _ l1).trans hc7
    generalize u2.val = Y at hbY hcY ⊢
    clear hkb hbX hzX hc7 e1 l1
    have HB := hid (show Below w.heap.size w Y from hbY)
    have HCY := hid hcY
    clear hbY hcY
    go_wp2_with fail
    go_loopw [53] (fun x wr => ∃ i : Nat, i ≤ m ∧ x = .int .i64 i ∧ Hid (Below Y.heap.size Y wr)) (fun x _ => m - (intOf x).toNat)
    case atStart => exact ⟨0, Nat.zero_le _, rfl, hid (Below.refl _ _)⟩
    case round =>
      obtain ⟨i, hi, rfl, HR⟩ := hrel
      have hbw := HB.out.trans (HR.out.mono HB.out.size)
      have hzw := hbw.size
      by_cases hlt : i < m
      · obtain ⟨x, hx⟩ : ∃ x, more[i]? = some x := ⟨_, List.getElem?_eq_getElem (by rw [HML.out]; exact hlt)⟩
        obtain ⟨rb, ro, rfl, c1, c2, c3⟩ := (show Src wr 2 (.slice am more.length cam) more.length (flat more) by rw [HML.out]; exact HS2.out.heap hbw).at_ i x hx
        have lr : rb < wr.heap.size := World.block_lt_of_cell? _ _ c1
        clear hx
        obtain ⟨s1, t1⟩ := x
        simp only at c1 c2 c3
        by_cases hs1 : 60 < s1.size
        · have ds1 : decide ((60 : Int) < s1.size) = true := by simp; omega
          go_wp2_with fail
          go_ret
          exact .mk rfl (hbw.trans (Below.mono (by repeat' (first | exact Below.refl _ _ | with_reducible assumption | omega | with_reducible refine below_put_fut ?_ ?_ _ | with_reducible refine below_to_put ?_ | with_reducible refine Below.alloc ?_ ?_ _ | with_reducible refine Below.fut ?_ ?_ _ | with_reducible refine Below.drew ?_ | with_reducible refine Below.setCell ?_ ?_ _ | with_reducible refine Below.atPut ?_ ?_ _ | (simp [go_sem]; done) | (simp [go_sem]; omega))) hzw))
        · have ds1 : decide ((60 : Int) < s1.size) = false := by simp; omega
          by_cases ht1 : 60 < t1.size
          · have dt1 : decide ((60 : Int) < t1.size) = true := by simp; omega
            go_wp2_with fail
            go_ret
            exact .mk rfl (hbw.trans (Below.mono (by repeat' (first | exact Below.refl _ _ | with_reducible assumption | omega | with_reducible refine below_put_fut ?_ ?_ _ | with_reducible refine below_to_put ?_ | with_reducible refine Below.alloc ?_ ?_ _ | with_reducible refine Below.fut ?_ ?_ _ | with_reducible refine Below.drew ?_ | with_reducible refine Below.setCell ?_ ?_ _ | with_reducible refine Below.atPut ?_ ?_ _ | (simp [go_sem]; done) | (simp [go_sem]; omega))) hzw))
          · have dt1 : decide ((60 : Int) < t1.size) = false := by simp; omega
            go_wp2_with fail
            go_roundw
            case rel => exact ⟨i + 1, by omega, by go_num, hid (HR.out.trans (Below.mono (by repeat' (first | exact Below.refl _ _ | with_reducible assumption | omega | with_reducible refine below_put_fut ?_ ?_ _ | with_reducible refine below_to_put ?_ | with_reducible refine Below.alloc ?_ ?_ _ | with_reducible refine Below.fut ?_ ?_ _ | with_reducible refine Below.drew ?_ | with_reducible refine Below.setCell ?_ ?_ _ | with_reducible refine Below.atPut ?_ ?_ _ | (simp [go_sem]; done) | (simp [go_sem]; omega))) HR.out.size))⟩
            case measure => simp [intOf]; omega
      · obtain rfl : i = m := by omega
        have HCW := hid ((HR.out.block _ (lt_of_heap HCY.out)).trans HCY.out)
        have HBW := hid hbw
        clear hlt hi hbw HR HB HCY
        go_wp2_with fail
        refine (filled_is wr _ l n HL.out (by omega) (HS.out.heap HBW.out)).mono ?_
        rintro _ W1 ⟨gs, gr, rfl, hb1⟩
        have hxl := fillL_len l
        have hbW1 := hb1.1
        generalize fillL l = xs at hb1 hxl
        rw [HL.out] at hxl
        obtain ⟨q, hq⟩ : ∃ q, xs.length = q := ⟨_, rfl⟩
        have HQ := hid hq
        rw [hq] at hxl
        obtain ⟨v, r1, r2, r3, r4, r5⟩ := hb1.held (by omega)
        have H1 := hid ((held_base r5 HBW.out HBW.out.size))
        have HC1 := hid ((hbW1.block _ (lt_of_heap HCW.out)).trans HCW.out)
        have hwr : w.heap.size < wr.heap.size := lt_of_heap HCW.out
        have HB1 := hid (HBW.out.trans (hbW1.mono HBW.out.size))
        clear hb1 r1 r2 r3 r4 r5 hbW1 hq HCW
        go_wp2_with fail
        refine (sh_items H1.out.sh (by rw [HQ.out]; omega)).mono ?_
        rintro _ W2 ⟨a2, c2, rfl, hr2, hb2, hf2⟩
        rw [HQ.out] at hr2 hf2 ⊢
        have HR2 := hid hr2
        have H2 := hid (show Held w W2 (fun k => (k < wr.heap.size) ∨ blk (.slice a2 q c2) k ≠ 0) xs gs from H1.out.turn (Chg.of_below hb2) (fun k hk => by
          obtain ⟨_, _, _, c', top', _, qq, _⟩ := H1.out
          rcases hk with hk | hk
          · exact ⟨Nat.lt_of_lt_of_le (qq k (.inr hk)).2 hb2.size, fun _ => .inr hk⟩
          · exact ⟨hr2.lt hk, fun h => absurd (hf2 k h) hk⟩))
        have HC2 := hid ((hb2.block _ (lt_of_heap HC1.out)).trans HC1.out)
        have HB2 := hid (HB1.out.trans (hb2.mono HB1.out.size))
        clear hr2 hb2 hf2 H1 HC1 HB1
        obtain ⟨kk, hkk, ekk⟩ := place_in at_ i hm
        obtain ⟨A1, hA1⟩ : ∃ A1, A1 = (if cam = kk then am else am.map (·.add (kk * 2))) := ⟨_, rfl⟩
        have s1 := fun W => slice_to am i cam kk (by omega) W
        have s2 := fun W => slice_from am i cam kk hkk hc W
        rw [← hA1] at s2
        have HP := hid (show Src W2 2 (.slice am kk cam) kk (flat (more.take kk)) from slice_pre (HS2.out.heap HB2.out) hkk HML.out)
        have hsrc := slice_src (i := kk) (j := i - kk) HML.out (HS2.out.heap HB2.out) hc (by omega)
        rw [← hA1, List.take_of_length_le (by rw [List.length_drop, HML.out]; omega)] at hsrc
        have HN := hid hsrc
        have HKK := hid hkk
        obtain ⟨rk, hrk⟩ : ∃ rk, rk = i - kk := ⟨_, rfl⟩
        rw [← hrk] at HN s2
        have HRK := hid hrk
        have e2 := fun i => cell_of_row W2 w.heap.size i _ _ (0, 0) HC2.out
        have l2 := lt_of_heap HC2.out
        clear hA1 hsrc hkk hrk
        go_wp2_with fail
        go_region_law (first
          | (refine step_append_ex (by rfl) _ _ _ (by rfl) _ _ (by rfl) (by rfl) (app_more HR6.out HB6.out HF6.out (by repeat' (first | exact Below.refl _ _ | with_reducible assumption | omega | with_reducible refine below_put_fut ?_ ?_ _ | with_reducible refine below_to_put ?_ | with_reducible refine Below.alloc ?_ ?_ _ | with_reducible refine Below.fut ?_ ?_ _ | with_reducible refine Below.drew ?_ | with_reducible refine Below.setCell ?_ ?_ _ | with_reducible refine Below.atPut ?_ ?_ _ | (simp [go_sem]; done) | (simp [go_sem]; omega))) (HN.out.heap HB6.out) (by have := HKK.out; have := HRK.out; omega) (r := i + 1) (by have := HKK.out; have := HRK.out; omega)) ?_; rintro _ W7 ⟨a7, c7, rfl, hr7, hb7, hf7⟩; have HR7 := hid hr7; have HB7 := hid hb7; have HF7 := hid hf7; clear hr7 hb7 hf7)
          | (refine step_append_ex (by rfl) _ _ _ (by rfl) _ _ (by rfl) (by rfl) (app_more (zs := [(bk, bv)]) HR5.out HB5.out HF5.out (by repeat' (first | exact Below.refl _ _ | with_reducible assumption | omega | with_reducible refine below_put_fut ?_ ?_ _ | with_reducible refine below_to_put ?_ | with_reducible refine Below.alloc ?_ ?_ _ | with_reducible refine Below.fut ?_ ?_ _ | with_reducible refine Below.drew ?_ | with_reducible refine Below.setCell ?_ ?_ _ | with_reducible refine Below.atPut ?_ ?_ _ | (simp [go_sem]; done) | (simp [go_sem]; omega))) (by first | exact src_blk (cs := flat [(bk, bv)]) (by repeat' (first | rfl | assumption | (with_reducible refine (heap_drew_eq _ _).trans ?_) | (refine (Fut.heap _ _ ?_).trans ?_ ; focus (first | assumption | omega | (simp [go_sem]; done) | (simp [go_sem]; omega))) | (refine (heap_put_at _ _ _ ?_).trans ?_ ; focus (first | assumption | omega | (simp [go_sem]; done) | (simp [go_sem]; omega))) | (refine (heap_put_other _ _ _ _ ?_).trans ?_ ; focus (first | assumption | omega | (simp [go_sem]; done) | (simp [go_sem]; omega))) | (refine (heap_alloc_other _ _ _ ?_).trans ?_ ; focus (first | assumption | omega | (simp [go_sem]; done) | (simp [go_sem]; omega))) | (refine (heap_alloc_at _ _ _ ?_).trans ?_ ; focus (first | assumption | omega | (simp [go_sem]; done) | (simp [go_sem]; omega))) | (simp [go_sem]; done) | (simp [go_sem]; omega))) 2 1 1 rfl (flat_one _) | exact src_blk (cs := flat [(bk, bv)]) ((HD5.out.block _ (by simp [go_sem])).trans (by repeat' (first | rfl | assumption | (with_reducible refine (heap_drew_eq _ _).trans ?_) | (refine (Fut.heap _ _ ?_).trans ?_ ; focus (first | assumption | omega | (simp [go_sem]; done) | (simp [go_sem]; omega))) | (refine (heap_put_at _ _ _ ?_).trans ?_ ; focus (first | assumption | omega | (simp [go_sem]; done) | (simp [go_sem]; omega))) | (refine (heap_put_other _ _ _ _ ?_).trans ?_ ; focus (first | assumption | omega | (simp [go_sem]; done) | (simp [go_sem]; omega))) | (refine (heap_alloc_other _ _ _ ?_).trans ?_ ; focus (first | assumption | omega | (simp [go_sem]; done) | (simp [go_sem]; omega))) | (refine (heap_alloc_at _ _ _ ?_).trans ?_ ; focus (first | assumption | omega | (simp [go_sem]; done) | (simp [go_sem]; omega))) | (simp [go_sem]; done) | (simp [go_sem]; omega)))) 2 1 1 rfl (flat_one _)) (by have := HKK.out; omega) (r := kk + 1) rfl) ?_; rintro _ W6 ⟨a6, c6, rfl, hr6, hb6, hf6⟩; have HR6 := hid hr6; have HB6 := hid hb6; have HF6 := hid hf6; clear hr6 hb6 hf6)
          | (refine step_append_ex (by rfl) _ _ _ (by rfl) _ _ (by rfl) (by rfl) (app_first (W0 := W2) (by repeat' (first | exact Below.refl _ _ | with_reducible assumption | omega | with_reducible refine below_put_fut ?_ ?_ _ | with_reducible refine below_to_put ?_ | with_reducible refine Below.alloc ?_ ?_ _ | with_reducible refine Below.fut ?_ ?_ _ | with_reducible refine Below.drew ?_ | with_reducible refine Below.setCell ?_ ?_ _ | with_reducible refine Below.atPut ?_ ?_ _ | (simp [go_sem]; done) | (simp [go_sem]; omega))) (HP.out.heap (by repeat' (first | exact Below.refl _ _ | with_reducible assumption | omega | with_reducible refine below_put_fut ?_ ?_ _ | with_reducible refine below_to_put ?_ | with_reducible refine Below.alloc ?_ ?_ _ | with_reducible refine Below.fut ?_ ?_ _ | with_reducible refine Below.drew ?_ | with_reducible refine Below.setCell ?_ ?_ _ | with_reducible refine Below.atPut ?_ ?_ _ | (simp [go_sem]; done) | (simp [go_sem]; omega)))) (by have := HKK.out; omega)) ?_; rintro _ W5 ⟨a5, c5, rfl, hr5, hd5, hb5, hf5⟩; have HR5 := hid hr5; have HD5 := hid hd5; have HB5 := hid hb5; have HF5 := hid hf5; have e5 := fun i => cell_of_row W5 w.heap.size i _ _ (0, 0) ((hb5.block _ l2).trans HC2.out); have l5 := Nat.lt_of_lt_of_le l2 hb5.size; clear hr5 hd5 hb5 hf5))
        all_goals
          have hrm : Row W7 34 2 (.slice a7 (i + 1) c7) (i + 1) (flat (more.take kk ++ (bk, bv) :: more.drop kk)) := by
            have := HR7.out
            rwa [List.append_assoc, List.singleton_append] at this
          have hln : (more.take kk ++ (bk, bv) :: more.drop kk).length = i + 1 := by
            have := HKK.out; have := HML.out
            rw [List.length_append, List.length_cons, List.length_take, List.length_drop]; omega
          have hb0 : (insAll 200 (more.take kk ++ (bk, bv) :: more.drop kk) xs).1 ≠ 0 := insAll_bad (fun ys => putL_wrong HBAD.out ys) _ _ _
          generalize more.take kk ++ (bk, bv) :: more.drop kk = ms at hrm hln hb0
          obtain ⟨r, hr⟩ : ∃ r, (insAll 200 ms xs).1 = r := ⟨_, rfl⟩
          rw [hr] at hb0
          have hr0 : (r == 0) = false := by simp [hb0]
          have hr1 : (r != 0) = true := by simp [hb0]
          have HINL := hid (show inL 200 ms xs = xs by unfold inL; rw [hr, if_neg hb0])
          have HRE := hid hr
          have HRM := hid hrm
          have HLN := hid hln
          have H7 := hid (show HeldM 200 w W7 (fun k => (k < wr.heap.size ∨ blk (.slice a2 q c2) k ≠ 0) ∨ blk (.slice a7 (i + 1) c7) k ≠ 0) xs gs from H2.out.turn (Chg.of_below HB7.out) (fun k hk => by
            obtain ⟨_, _, _, c', top', _, qq, _⟩ := H2.out
            rcases hk with hk | hk
            · exact ⟨Nat.lt_of_lt_of_le (qq k hk).2 HB7.out.size, fun _ => hk⟩
            · exact ⟨hrm.lt hk, fun h => absurd (HF7.out k h) hk⟩))
          have HR27 := hid (HR2.out.keep (W' := W7) fun k hk => HB7.out.block k (HR2.out.lt hk))
          clear hrm hln hr H2 HR2 HR5 HD5 HB5 HF5 HR6 HB6 HF6 HR7 HB7 HF7 e2 e5 l5 l2 s1 s2 ekk HP HN HC2 HB2 hzw HS2
          go_wp2_with fail
          refine (cutIn_is (Int.le_refl _) H7.out _ ms (i + 1) HLN.out (by omega) (fun Y hY => (HRM.out.keep fun k hk => hY k (.inr hk)).src (flat_one _)) r HRE.out).mono ?_
          rintro _ W8 ⟨rfl, h8, k8⟩
          rw [HINL.out] at h8
          have H8 := hid h8
          have HR8 := hid ((HR27.out.keep (W' := W8) fun k hk => k8 k (.inl (.inr hk))).src (flat_one _))
          clear h8 k8
          go_wp2_with fail
          refine (sh_items H8.out.sh (by rw [HQ.out]; omega)).mono ?_
          rintro _ W9 ⟨a9, c9, rfl, hr9, hb9, -⟩
          rw [HQ.out] at hr9 ⊢
          have HBW9 := hid (H8.out.1.trans (hb9.mono H8.out.2.1))
          have HZ9 := hid (Nat.le_trans H8.out.2.1 hb9.size)
          have HS9 := hid (hr9.src (flat_one _))
          have HR9 := hid (HR8.out.heap hb9)
          clear hr9 hb9
          go_wp2_with fail
          (((with_reducible refine (same_is _ _ _ xs q HQ.out (by omega) HS9.out HR9.out).mono ?_)); rintro _ _ ⟨rfl, u9, rfl⟩)
          have hbwz := HBW9.out.trans (u9.below.mono HZ9.out)
          go_wp2_with fail
          go_ret
          exact .mk rfl hbwz
  | false =>
    have hvb : decide (16 < bv.size) = true := by
      have := HBAD.out
      simp only [decide_eq_false_iff_not] at hkb
      simp only [decide_eq_true_eq]
      exact this.resolve_left hkb
    go_wp2_with fail
    (((with_reducible refine (refKey_is _ bk false hkb).mono ?_)); rintro _ _ ⟨rfl, u2, rfl⟩)
    go_wp2_with fail
    (((with_reducible refine (refValue_is _ bv true hvb).mono ?_)); rintro _ _ ⟨rfl, u3, rfl⟩)
    have hbY := (hbX.trans (u2.below.mono hzX)).trans (u3.below.mono (Nat.le_trans hzX u2.below.size))
    have hcY := (u3.below.block _ (Nat.lt_of_lt_of_le l1 u2.below.size)).trans ((u2.below.block _ l1).trans hc7)
    generalize u3.val = Y at hbY hcY ⊢
    clear hkb hvb hbX hzX hc7 e1 l1
    have HB := hid (show Below w.heap.size w Y from hbY)
    have HCY := hid hcY
    clear hbY hcY
    go_wp2_with fail
    go_loopw [53] (fun x wr => ∃ i : Nat, i ≤ m ∧ x = .int .i64 i ∧ Hid (Below Y.heap.size Y wr)) (fun x _ => m - (intOf x).toNat)
    case atStart => exact ⟨0, Nat.zero_le _, rfl, hid (Below.refl _ _)⟩
    case round =>
      obtain ⟨i, hi, rfl, HR⟩ := hrel
      have hbw := HB.out.trans (HR.out.mono HB.out.size)
      have hzw := hbw.size
      by_cases hlt : i < m
      · obtain ⟨x, hx⟩ : ∃ x, more[i]? = some x := ⟨_, List.getElem?_eq_getElem (by rw [HML.out]; exact hlt)⟩
        obtain ⟨rb, ro, rfl, c1, c2, c3⟩ := (show Src wr 2 (.slice am more.length cam) more.length (flat more) by rw [HML.out]; exact HS2.out.heap hbw).at_ i x hx
        have lr : rb < wr.heap.size := World.block_lt_of_cell? _ _ c1
        clear hx
        obtain ⟨s1, t1⟩ := x
        simp only at c1 c2 c3
        by_cases hs1 : 60 < s1.size
        · have ds1 : decide ((60 : Int) < s1.size) = true := by simp; omega
          go_wp2_with fail
          go_ret
          exact .mk rfl (hbw.trans (Below.mono (by repeat' (first | exact Below.refl _ _ | with_reducible assumption | omega | with_reducible refine below_put_fut ?_ ?_ _ | with_reducible refine below_to_put ?_ | with_reducible refine Below.alloc ?_ ?_ _ | with_reducible refine Below.fut ?_ ?_ _ | with_reducible refine Below.drew ?_ | with_reducible refine Below.setCell ?_ ?_ _ | with_reducible refine Below.atPut ?_ ?_ _ | (simp [go_sem]; done) | (simp [go_sem]; omega))) hzw))
        · have ds1 : decide ((60 : Int) < s1.size) = false := by simp; omega
          by_cases ht1 : 60 < t1.size
          · have dt1 : decide ((60 : Int) < t1.size) = true := by simp; omega
            go_wp2_with fail
            go_ret
            exact .mk rfl (hbw.trans (Below.mono (by repeat' (first | exact Below.refl _ _ | with_reducible assumption | omega | with_reducible refine below_put_fut ?_ ?_ _ | with_reducible refine below_to_put ?_ | with_reducible refine Below.alloc ?_ ?_ _ | with_reducible refine Below.fut ?_ ?_ _ | with_reducible refine Below.drew ?_ | with_reducible refine Below.setCell ?_ ?_ _ | with_reducible refine Below.atPut ?_ ?_ _ | (simp [go_sem]; done) | (simp [go_sem]; omega))) hzw))
          · have dt1 : decide ((60 : Int) < t1.size) = false := by simp; omega
            go_wp2_with fail
            go_roundw
            case rel => exact ⟨i + 1, by omega, by go_num, hid (HR.out.trans (Below.mono (by repeat' (first | exact Below.refl _ _ | with_reducible assumption | omega | with_reducible refine below_put_fut ?_ ?_ _ | with_reducible refine below_to_put ?_ | with_reducible refine Below.alloc ?_ ?_ _ | with_reducible refine Below.fut ?_ ?_ _ | with_reducible refine Below.drew ?_ | with_reducible refine Below.setCell ?_ ?_ _ | with_reducible refine Below.atPut ?_ ?_ _ | (simp [go_sem]; done) | (simp [go_sem]; omega))) HR.out.size))⟩
            case measure => simp [intOf]; omega
      · obtain rfl : i = m := by omega
        have HCW := hid ((HR.out.block _ (lt_of_heap HCY.out)).trans HCY.out)
        have HBW := hid hbw
        clear hlt hi hbw HR HB HCY
        go_wp2_with fail
        refine (filled_is wr _ l n HL.out (by omega) (HS.out.heap HBW.out)).mono ?_
        rintro _ W1 ⟨gs, gr, rfl, hb1⟩
        have hxl := fillL_len l
        have hbW1 := hb1.1
        generalize fillL l = xs at hb1 hxl
        rw [HL.out] at hxl
        obtain ⟨q, hq⟩ : ∃ q, xs.length = q := ⟨_, rfl⟩
        have HQ := hid hq
        rw [hq] at hxl
        obtain ⟨v, r1, r2, r3, r4, r5⟩ := hb1.held (by omega)
        have H1 := hid ((held_base r5 HBW.out HBW.out.size))
        have HC1 := hid ((hbW1.block _ (lt_of_heap HCW.out)).trans HCW.out)
        have hwr : w.heap.size < wr.heap.size := lt_of_heap HCW.out
        have HB1 := hid (HBW.out.trans (hbW1.mono HBW.out.size))
        clear hb1 r1 r2 r3 r4 r5 hbW1 hq HCW
        go_wp2_with fail
        refine (sh_items H1.out.sh (by rw [HQ.out]; omega)).mono ?_
        rintro _ W2 ⟨a2, c2, rfl, hr2, hb2, hf2⟩
        rw [HQ.out] at hr2 hf2 ⊢
        have HR2 := hid hr2
        have H2 := hid (show Held w W2 (fun k => (k < wr.heap.size) ∨ blk (.slice a2 q c2) k ≠ 0) xs gs from H1.out.turn (Chg.of_below hb2) (fun k hk => by
          obtain ⟨_, _, _, c', top', _, qq, _⟩ := H1.out
          rcases hk with hk | hk
          · exact ⟨Nat.lt_of_lt_of_le (qq k (.inr hk)).2 hb2.size, fun _ => .inr hk⟩
          · exact ⟨hr2.lt hk, fun h => absurd (hf2 k h) hk⟩))
        have HC2 := hid ((hb2.block _ (lt_of_heap HC1.out)).trans HC1.out)
        have HB2 := hid (HB1.out.trans (hb2.mono HB1.out.size))
        clear hr2 hb2 hf2 H1 HC1 HB1
        obtain ⟨kk, hkk, ekk⟩ := place_in at_ i hm
        obtain ⟨A1, hA1⟩ : ∃ A1, A1 = (if cam = kk then am else am.map (·.add (kk * 2))) := ⟨_, rfl⟩
        have s1 := fun W => slice_to am i cam kk (by omega) W
        have s2 := fun W => slice_from am i cam kk hkk hc W
        rw [← hA1] at s2
        have HP := hid (show Src W2 2 (.slice am kk cam) kk (flat (more.take kk)) from slice_pre (HS2.out.heap HB2.out) hkk HML.out)
        have hsrc := slice_src (i := kk) (j := i - kk) HML.out (HS2.out.heap HB2.out) hc (by omega)
        rw [← hA1, List.take_of_length_le (by rw [List.length_drop, HML.out]; omega)] at hsrc
        have HN := hid hsrc
        have HKK := hid hkk
        obtain ⟨rk, hrk⟩ : ∃ rk, rk = i - kk := ⟨_, rfl⟩
        rw [← hrk] at HN s2
        have HRK := hid hrk
        have e2 := fun i => cell_of_row W2 w.heap.size i _ _ (0, 0) HC2.out
        have l2 := lt_of_heap HC2.out
        clear hA1 hsrc hkk hrk
        go_wp2_with fail
        go_region_law (first
          | (refine step_append_ex (by rfl) _ _ _ (by rfl) _ _ (by rfl) (by rfl) (app_more HR6.out HB6.out HF6.out (by repeat' (first | exact Below.refl _ _ | with_reducible assumption | omega | with_reducible refine below_put_fut ?_ ?_ _ | with_reducible refine below_to_put ?_ | with_reducible refine Below.alloc ?_ ?_ _ | with_reducible refine Below.fut ?_ ?_ _ | with_reducible refine Below.drew ?_ | with_reducible refine Below.setCell ?_ ?_ _ | with_reducible refine Below.atPut ?_ ?_ _ | (simp [go_sem]; done) | (simp [go_sem]; omega))) (HN.out.heap HB6.out) (by have := HKK.out; have := HRK.out; omega) (r := i + 1) (by have := HKK.out; have := HRK.out; omega)) ?_; rintro _ W7 ⟨a7, c7, rfl, hr7, hb7, hf7⟩; have HR7 := hid hr7; have HB7 := hid hb7; have HF7 := hid hf7; clear hr7 hb7 hf7)
          | (refine step_append_ex (by rfl) _ _ _ (by rfl) _ _ (by rfl) (by rfl) (app_more (zs := [(bk, bv)]) HR5.out HB5.out HF5.out (by repeat' (first | exact Below.refl _ _ | with_reducible assumption | omega | with_reducible refine below_put_fut ?_ ?_ _ | with_reducible refine below_to_put ?_ | with_reducible refine Below.alloc ?_ ?_ _ | with_reducible refine Below.fut ?_ ?_ _ | with_reducible refine Below.drew ?_ | with_reducible refine Below.setCell ?_ ?_ _ | with_reducible refine Below.atPut ?_ ?_ _ | (simp [go_sem]; done) | (simp [go_sem]; omega))) (by first | exact src_blk (cs := flat [(bk, bv)]) (by repeat' (first | rfl | assumption | (with_reducible refine (heap_drew_eq _ _).trans ?_) | (refine (Fut.heap _ _ ?_).trans ?_ ; focus (first | assumption | omega | (simp [go_sem]; done) | (simp [go_sem]; omega))) | (refine (heap_put_at _ _ _ ?_).trans ?_ ; focus (first | assumption | omega | (simp [go_sem]; done) | (simp [go_sem]; omega))) | (refine (heap_put_other _ _ _ _ ?_).trans ?_ ; focus (first | assumption | omega | (simp [go_sem]; done) | (simp [go_sem]; omega))) | (refine (heap_alloc_other _ _ _ ?_).trans ?_ ; focus (first | assumption | omega | (simp [go_sem]; done) | (simp [go_sem]; omega))) | (refine (heap_alloc_at _ _ _ ?_).trans ?_ ; focus (first | assumption | omega | (simp [go_sem]; done) | (simp [go_sem]; omega))) | (simp [go_sem]; done) | (simp [go_sem]; omega))) 2 1 1 rfl (flat_one _) | exact src_blk (cs := flat [(bk, bv)]) ((HD5.out.block _ (by simp [go_sem])).trans (by repeat' (first | rfl | assumption | (with_reducible refine (heap_drew_eq _ _).trans ?_) | (refine (Fut.heap _ _ ?_).trans ?_ ; focus (first | assumption | omega | (simp [go_sem]; done) | (simp [go_sem]; omega))) | (refine (heap_put_at _ _ _ ?_).trans ?_ ; focus (first | assumption | omega | (simp [go_sem]; done) | (simp [go_sem]; omega))) | (refine (heap_put_other _ _ _ _ ?_).trans ?_ ; focus (first | assumption | omega | (simp [go_sem]; done) | (simp [go_sem]; omega))) | (refine (heap_alloc_other _ _ _ ?_).trans ?_ ; focus (first | assumption | omega | (simp [go_sem]; done) | (simp [go_sem]; omega))) | (refine (heap_alloc_at _ _ _ ?_).trans ?_ ; focus (first | assumption | omega | (simp [go_sem]; done) | (simp [go_sem]; omega))) | (simp [go_sem]; done) | (simp [go_sem]; omega)))) 2 1 1 rfl (flat_one _)) (by have := HKK.out; omega) (r := kk + 1) rfl) ?_; rintro _ W6 ⟨a6, c6, rfl, hr6, hb6, hf6⟩; have HR6 := hid hr6; have HB6 := hid hb6; have HF6 := hid hf6; clear hr6 hb6 hf6)
          | (refine step_append_ex (by rfl) _ _ _ (by rfl) _ _ (by rfl) (by rfl) (app_first (W0 := W2) (by repeat' (first | exact Below.refl _ _ | with_reducible assumption | omega | with_reducible refine below_put_fut ?_ ?_ _ | with_reducible refine below_to_put ?_ | with_reducible refine Below.alloc ?_ ?_ _ | with_reducible refine Below.fut ?_ ?_ _ | with_reducible refine Below.drew ?_ | with_reducible refine Below.setCell ?_ ?_ _ | with_reducible refine Below.atPut ?_ ?_ _ | (simp [go_sem]; done) | (simp [go_sem]; omega))) (HP.out.heap (by repeat' (first | exact Below.refl _ _ | with_reducible assumption | omega | with_reducible refine below_put_fut ?_ ?_ _ | with_reducible refine below_to_put ?_ | with_reducible refine Below.alloc ?_ ?_ _ | with_reducible refine Below.fut ?_ ?_ _ | with_reducible refine Below.drew ?_ | with_reducible refine Below.setCell ?_ ?_ _ | with_reducible refine Below.atPut ?_ ?_ _ | (simp [go_sem]; done) | (simp [go_sem]; omega)))) (by have := HKK.out; omega)) ?_; rintro _ W5 ⟨a5, c5, rfl, hr5, hd5, hb5, hf5⟩; have HR5 := hid hr5; have HD5 := hid hd5; have HB5 := hid hb5; have HF5 := hid hf5; have e5 := fun i => cell_of_row W5 w.heap.size i _ _ (0, 0) ((hb5.block _ l2).trans HC2.out); have l5 := Nat.lt_of_lt_of_le l2 hb5.size; clear hr5 hd5 hb5 hf5))
        all_goals
          have hrm : Row W7 34 2 (.slice a7 (i + 1) c7) (i + 1) (flat (more.take kk ++ (bk, bv) :: more.drop kk)) := by
            have := HR7.out
            rwa [List.append_assoc, List.singleton_append] at this
          have hln : (more.take kk ++ (bk, bv) :: more.drop kk).length = i + 1 := by
            have := HKK.out; have := HML.out
            rw [List.length_append, List.length_cons, List.length_take, List.length_drop]; omega
          have hb0 : (insAll 200 (more.take kk ++ (bk, bv) :: more.drop kk) xs).1 ≠ 0 := insAll_bad (fun ys => putL_wrong HBAD.out ys) _ _ _
          generalize more.take kk ++ (bk, bv) :: more.drop kk = ms at hrm hln hb0
          obtain ⟨r, hr⟩ : ∃ r, (insAll 200 ms xs).1 = r := ⟨_, rfl⟩
          rw [hr] at hb0
          have hr0 : (r == 0) = false := by simp [hb0]
          have hr1 : (r != 0) = true := by simp [hb0]
          have HINL := hid (show inL 200 ms xs = xs by unfold inL; rw [hr, if_neg hb0])
          have HRE := hid hr
          have HRM := hid hrm
          have HLN := hid hln
          have H7 := hid (show HeldM 200 w W7 (fun k => (k < wr.heap.size ∨ blk (.slice a2 q c2) k ≠ 0) ∨ blk (.slice a7 (i + 1) c7) k ≠ 0) xs gs from H2.out.turn (Chg.of_below HB7.out) (fun k hk => by
            obtain ⟨_, _, _, c', top', _, qq, _⟩ := H2.out
            rcases hk with hk | hk
            · exact ⟨Nat.lt_of_lt_of_le (qq k hk).2 HB7.out.size, fun _ => hk⟩
            · exact ⟨hrm.lt hk, fun h => absurd (HF7.out k h) hk⟩))
          have HR27 := hid (HR2.out.keep (W' := W7) fun k hk => HB7.out.block k (HR2.out.lt hk))
          clear hrm hln hr H2 HR2 HR5 HD5 HB5 HF5 HR6 HB6 HF6 HR7 HB7 HF7 e2 e5 l5 l2 s1 s2 ekk HP HN HC2 HB2 hzw HS2
          go_wp2_with fail
          refine (cutIn_is (Int.le_refl _) H7.out _ ms (i + 1) HLN.out (by omega) (fun Y hY => (HRM.out.keep fun k hk => hY k (.inr hk)).src (flat_one _)) r HRE.out).mono ?_
          rintro _ W8 ⟨rfl, h8, k8⟩
          rw [HINL.out] at h8
          have H8 := hid h8
          have HR8 := hid ((HR27.out.keep (W' := W8) fun k hk => k8 k (.inl (.inr hk))).src (flat_one _))
          clear h8 k8
          go_wp2_with fail
          refine (sh_items H8.out.sh (by rw [HQ.out]; omega)).mono ?_
          rintro _ W9 ⟨a9, c9, rfl, hr9, hb9, -⟩
          rw [HQ.out] at hr9 ⊢
          have HBW9 := hid (H8.out.1.trans (hb9.mono H8.out.2.1))
          have HZ9 := hid (Nat.le_trans H8.out.2.1 hb9.size)
          have HS9 := hid (hr9.src (flat_one _))
          have HR9 := hid (HR8.out.heap hb9)
          clear hr9 hb9
          go_wp2_with fail
          (((with_reducible refine (same_is _ _ _ xs q HQ.out (by omega) HS9.out HR9.out).mono ?_)); rintro _ _ ⟨rfl, u9, rfl⟩)
          have hbwz := HBW9.out.trans (u9.below.mono HZ9.out)
          go_wp2_with fail
          go_ret
          exact .mk rfl hbwz
theorem cutNone_walk (W : World) (sl : Value) (l : List It) (hl : ItemsAt W sl l) (sm : Value) (more : List It) (hm : ItemsAt W sm more) (at_ : Int) (wa : (Lit.int .i64 at_).wf = true) (bk bv : ByteArray) :
    Calls Try.prog 21 #[sl, sm, .int .i64 at_, .agg #[.string bk, .string bv]] W (Makes (.bool true) W) := by
  have hs := hl.src
  have hs2 := hm.src
  have hcap : ∀ ao c, sm = .slice ao more.length c → more.length ≤ c := fun ao c e => by
    rcases hm.form with ⟨h1, h2⟩ | ⟨a, cap, h1, h2, _⟩
    · subst h2; simp
    · rw [h1] at e; injection e with _ _ e3; omega
  obtain ⟨n, hn⟩ : ∃ n, l.length = n := ⟨_, rfl⟩
  obtain ⟨m, hml⟩ : ∃ m, more.length = m := ⟨_, rfl⟩
  rw [hn] at hs
  rw [hml] at hs2 hcap
  clear wa hl hm
  rcases Nat.lt_or_ge 40 n with c | c
  · obtain ⟨ao, cap, rfl⟩ := hs.slice_of
    have d1 : decide ((40 : Int) < n) = true := by simp; omega
    clear c hn hs hs2 hml hcap
    go_enter Try.func21, Try.ntmps21
    go_wp2_with (first | (go_at_call 60; ((with_reducible refine (cutAlive_any _).mono ?_)); rintro _ _ ⟨rfl, u, rfl⟩; (try (rw [Fut.put_self u (by first | assumption | (simp [go_sem]; done) | (simp [go_sem]; omega))]))) | (((with_reducible refine wp_region_fut_lit (by kernel_rfl) (by kernel_rfl) ?_)); (repeat (go_big_quiet_step ((first | (go_at_call 60; with_reducible exact Calls.fut_of (cutAlive_any _)))))); ((with_reducible refine wpQuiet_nil ?_)); rintro _ ⟨u, rfl⟩; (try (rw [Fut.put_self u (by first | assumption | (simp [go_sem]; done) | (simp [go_sem]; omega))]))))
    go_ret; exact .mk (by first | rfl | (simp; done) | (simp; omega)) (by repeat' (first | exact Below.refl _ _ | with_reducible assumption | omega | with_reducible refine below_put_fut ?_ ?_ _ | with_reducible refine below_to_put ?_ | with_reducible refine Below.alloc ?_ ?_ _ | with_reducible refine Below.fut ?_ ?_ _ | with_reducible refine Below.drew ?_ | with_reducible refine Below.setCell ?_ ?_ _ | with_reducible refine Below.atPut ?_ ?_ _ | (simp [go_sem]; done) | (simp [go_sem]; omega)))
  have d1 : decide ((40 : Int) < n) = false := by simp; omega
  rcases Nat.lt_or_ge 40 m with c2 | c2
  · obtain ⟨ao, cap, rfl⟩ := hs.slice_of
    obtain ⟨am, cam, rfl⟩ := hs2.slice_of
    have d2 : decide ((40 : Int) < m) = true := by simp; omega
    clear c c2 hn hs hs2 hml hcap
    go_enter Try.func21, Try.ntmps21
    go_wp2_with (first | (go_at_call 60; ((with_reducible refine (cutAlive_any _).mono ?_)); rintro _ _ ⟨rfl, u, rfl⟩; (try (rw [Fut.put_self u (by first | assumption | (simp [go_sem]; done) | (simp [go_sem]; omega))]))) | (((with_reducible refine wp_region_fut_lit (by kernel_rfl) (by kernel_rfl) ?_)); (repeat (go_big_quiet_step ((first | (go_at_call 60; with_reducible exact Calls.fut_of (cutAlive_any _)))))); ((with_reducible refine wpQuiet_nil ?_)); rintro _ ⟨u, rfl⟩; (try (rw [Fut.put_self u (by first | assumption | (simp [go_sem]; done) | (simp [go_sem]; omega))]))))
    go_ret; exact .mk (by first | rfl | (simp; done) | (simp; omega)) (by repeat' (first | exact Below.refl _ _ | with_reducible assumption | omega | with_reducible refine below_put_fut ?_ ?_ _ | with_reducible refine below_to_put ?_ | with_reducible refine Below.alloc ?_ ?_ _ | with_reducible refine Below.fut ?_ ?_ _ | with_reducible refine Below.drew ?_ | with_reducible refine Below.setCell ?_ ?_ _ | with_reducible refine Below.atPut ?_ ?_ _ | (simp [go_sem]; done) | (simp [go_sem]; omega)))
  have d2 : decide ((40 : Int) < m) = false := by simp; omega
  rcases Nat.lt_or_ge 60 bk.size with c3 | c3
  · obtain ⟨ao, cap, rfl⟩ := hs.slice_of
    obtain ⟨am, cam, rfl⟩ := hs2.slice_of
    have d3 : decide ((60 : Int) < bk.size) = true := by simp; omega
    clear c c2 c3 hn hs hs2 hml hcap
    go_enter Try.func21, Try.ntmps21
    go_wp2_with (first | (go_at_call 60; ((with_reducible refine (cutAlive_any _).mono ?_)); rintro _ _ ⟨rfl, u, rfl⟩; (try (rw [Fut.put_self u (by first | assumption | (simp [go_sem]; done) | (simp [go_sem]; omega))]))) | (((with_reducible refine wp_region_fut_lit (by kernel_rfl) (by kernel_rfl) ?_)); (repeat (go_big_quiet_step ((first | (go_at_call 60; with_reducible exact Calls.fut_of (cutAlive_any _)))))); ((with_reducible refine wpQuiet_nil ?_)); rintro _ ⟨u, rfl⟩; (try (rw [Fut.put_self u (by first | assumption | (simp [go_sem]; done) | (simp [go_sem]; omega))]))))
    go_ret; exact .mk (by first | rfl | (simp; done) | (simp; omega)) (by repeat' (first | exact Below.refl _ _ | with_reducible assumption | omega | with_reducible refine below_put_fut ?_ ?_ _ | with_reducible refine below_to_put ?_ | with_reducible refine Below.alloc ?_ ?_ _ | with_reducible refine Below.fut ?_ ?_ _ | with_reducible refine Below.drew ?_ | with_reducible refine Below.setCell ?_ ?_ _ | with_reducible refine Below.atPut ?_ ?_ _ | (simp [go_sem]; done) | (simp [go_sem]; omega)))
  have d3 : decide ((60 : Int) < bk.size) = false := by simp; omega
  rcases Nat.lt_or_ge 60 bv.size with c4 | c4
  · obtain ⟨ao, cap, rfl⟩ := hs.slice_of
    obtain ⟨am, cam, rfl⟩ := hs2.slice_of
    have d4 : decide ((60 : Int) < bv.size) = true := by simp; omega
    clear c c2 c3 c4 hn hs hs2 hml hcap
    go_enter Try.func21, Try.ntmps21
    go_wp2_with (first | (go_at_call 60; ((with_reducible refine (cutAlive_any _).mono ?_)); rintro _ _ ⟨rfl, u, rfl⟩; (try (rw [Fut.put_self u (by first | assumption | (simp [go_sem]; done) | (simp [go_sem]; omega))]))) | (((with_reducible refine wp_region_fut_lit (by kernel_rfl) (by kernel_rfl) ?_)); (repeat (go_big_quiet_step ((first | (go_at_call 60; with_reducible exact Calls.fut_of (cutAlive_any _)))))); ((with_reducible refine wpQuiet_nil ?_)); rintro _ ⟨u, rfl⟩; (try (rw [Fut.put_self u (by first | assumption | (simp [go_sem]; done) | (simp [go_sem]; omega))]))))
    go_ret; exact .mk (by first | rfl | (simp; done) | (simp; omega)) (by repeat' (first | exact Below.refl _ _ | with_reducible assumption | omega | with_reducible refine below_put_fut ?_ ?_ _ | with_reducible refine below_to_put ?_ | with_reducible refine Below.alloc ?_ ?_ _ | with_reducible refine Below.fut ?_ ?_ _ | with_reducible refine Below.drew ?_ | with_reducible refine Below.setCell ?_ ?_ _ | with_reducible refine Below.atPut ?_ ?_ _ | (simp [go_sem]; done) | (simp [go_sem]; omega)))
  have d4 : decide ((60 : Int) < bv.size) = false := by simp; omega
  cases hkb : decide (bk.size < 1 ∨ 16 < bk.size) with
  | true =>
    clear d1 d2 d3 d4
    exact cutNone_good W sl sm l n hn c hs more m hml c2 hs2 hcap at_ bk bv c3 c4 (.inl (by simpa using hkb))
  | false =>
    cases hvb : decide (16 < bv.size) with
    | true =>
      clear d1 d2 d3 d4
      exact cutNone_good W sl sm l n hn c hs more m hml c2 hs2 hcap at_ bk bv c3 c4 (.inr (by simpa using hvb))
    | false =>
      obtain ⟨ao, cap, rfl⟩ := hs.slice_of
      obtain ⟨am, cam, rfl⟩ := hs2.slice_of
      clear c c2 c3 c4 hn hs hs2 hml hcap
      go_enter Try.func21, Try.ntmps21
      go_wp2_with (first | (go_at_call 60; ((with_reducible refine (cutAlive_any _).mono ?_)); rintro _ _ ⟨rfl, u, rfl⟩; (try (rw [Fut.put_self u (by first | assumption | (simp [go_sem]; done) | (simp [go_sem]; omega))]))) | (go_at_call 64; ((with_reducible refine (refKey_is _ bk false hkb).mono ?_)); rintro _ _ ⟨rfl, u, rfl⟩; (try (rw [Fut.put_self u (by first | assumption | (simp [go_sem]; done) | (simp [go_sem]; omega))]))) | (go_at_call 65; ((with_reducible refine (refValue_is _ bv false hvb).mono ?_)); rintro _ _ ⟨rfl, u, rfl⟩; (try (rw [Fut.put_self u (by first | assumption | (simp [go_sem]; done) | (simp [go_sem]; omega))]))) | (((with_reducible refine wp_region_fut_lit (by kernel_rfl) (by kernel_rfl) ?_)); (repeat (go_big_quiet_step ((first | (go_at_call 60; with_reducible exact Calls.fut_of (cutAlive_any _)) | (go_at_call 64; with_reducible exact Calls.fut_of (refKey_is _ bk false hkb)) | (go_at_call 65; with_reducible exact Calls.fut_of (refValue_is _ bv false hvb)))))); ((with_reducible refine wpQuiet_nil ?_)); rintro _ ⟨u, rfl⟩; (try (rw [Fut.put_self u (by first | assumption | (simp [go_sem]; done) | (simp [go_sem]; omega))]))))
      go_ret; exact .mk (by first | rfl | (simp; done) | (simp; omega)) (by repeat' (first | exact Below.refl _ _ | with_reducible assumption | omega | with_reducible refine below_put_fut ?_ ?_ _ | with_reducible refine below_to_put ?_ | with_reducible refine Below.alloc ?_ ?_ _ | with_reducible refine Below.fut ?_ ?_ _ | with_reducible refine Below.drew ?_ | with_reducible refine Below.setCell ?_ ?_ _ | with_reducible refine Below.atPut ?_ ?_ _ | (simp [go_sem]; done) | (simp [go_sem]; omega)))
end Go.Proofs.Ythknenhcnpgkcaa
