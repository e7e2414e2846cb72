/- Contracts of package shelf: merge. -/
import Derived.Test.YthknenhcnpgkcaaMd
namespace Go.Proofs.Ythknenhcnpgkcaa
set_option linter.unusedVariables false
set_option linter.unusedSimpArgs false
open Go.RowKit
theorem delete_item1 (W : World) (r cap n : Nat) (l : List It) (hi : Row W 34 2 (.slice (some ⟨r, 0, none⟩) (n + 1) cap) (n + 1) (flat l)) (hn : n ≤ 1000) (i : Nat) (hin : i ≤ n) :
    Calls Try.prog 122 #[.slice (some ⟨r, 0, none⟩) (n + 1) cap, .int .i64 i, .int .i64 ((i : Int) + 1)] W fun en W' => en = .returned (.slice (some ⟨r, 0, none⟩) n cap) ∧ Row W' 34 2 (.slice (some ⟨r, 0, none⟩) n cap) n (flat (l.take i ++ l.drop (i + 1))) ∧ Chg (fun k => k = r) W W' := by
  have h := delete_item W r cap n _ hi hn (flat_one _) i hin
  have e1 : (flat l).take (i * 2) = flat (l.take i) := flat_take l i
  have e2 : (flat l).drop ((i + 1) * 2) = flat (l.drop (i + 1)) := flat_drop l (i + 1)
  rw [e1, e2, ← flat_append] at h
  exact h
theorem delete_ptr1 (W : World) (r cap n : Nat) (l : List Kid) (hi : Row W 110 1 (.slice (some ⟨r, 0, none⟩) (n + 1) cap) (n + 1) (ptrs l)) (hn : n ≤ 1000) (i : Nat) (hin : i + 1 ≤ n) :
    Calls Try.prog 150 #[.slice (some ⟨r, 0, none⟩) (n + 1) cap, .int .i64 ((i : Int) + 1), .int .i64 ((i : Int) + 2)] W fun en W' => en = .returned (.slice (some ⟨r, 0, none⟩) n cap) ∧ Row W' 110 1 (.slice (some ⟨r, 0, none⟩) n cap) n (ptrs (l.take (i + 1) ++ l.drop (i + 2))) ∧ Chg (fun k => k = r) W W' := by
  have h := delete_ptr W r cap n _ hi hn (ptrs_one _) (i + 1) hin
  rw [show ((i + 1 : Nat) : Int) = (i : Int) + 1 by omega, show (i : Int) + 1 + 1 = (i : Int) + 2 by omega, Nat.mul_one, Nat.mul_one] at h
  have e1 : (ptrs l).take (i + 1) ++ (ptrs l).drop (i + 1 + 1) = ptrs (l.take (i + 1) ++ l.drop (i + 2)) := by simp [ptrs]
  rw [e1] at h
  exact h
theorem src_one {W : World} {S : Nat} {y : It} (h : W.heap[S]? = some (.cells #[.string y.1, .string y.2] 34)) : Src W 2 (.slice (some ⟨S, 0, none⟩) 1 1) 1 [.string y.1, .string y.2] := ⟨rfl, by simp [Value.oneCell'], .inr ⟨_, 1, rfl, World.news_of_block h⟩⟩
/-- What merge's first Concat says, in whatever later world it is called. -/
theorem merge_items (W1 : World) (pa pb : Nat) (ao ro vo : Option Addr) (ac rc vc na nb ma mb : Nat) (bb : Value) (la lb : List It) (ak bk : List Kid) (hA : Nd W1 pa (.slice ao na ac) (.slice ro ma rc) na la ma ak) (hB : Nd W1 pb (.slice vo nb vc) bb nb lb mb bk) (hna : na ≤ 50) (hnb : nb ≤ 50) (y : It)
    (W : World) (S0 S : Nat) (hb : Below W1.heap.size W1 W) (h0 : W.heap[S0]? = some (.cells #[.string y.1, .string y.2] 34)) (hS : W.heap[S]? = some (.cells #[.slice ao na ac, .slice (some ⟨S0, 0, none⟩) 1 1, .slice vo nb vc] 28)) :
    Calls Try.prog 151 #[.slice (some ⟨S, 0, none⟩) 3 3] W fun en W' => ∃ a5 c5, en = .returned (.slice a5 (na + 1 + nb) c5) ∧ W'.heap[pa]? = some (.cells #[.slice ao na ac, .slice ro ma rc] 118) ∧ pa < W'.heap.size ∧ Hid (Row W' 34 2 (.slice a5 (na + 1 + nb) c5) (na + 1 + nb) (flat (la ++ y :: lb)) ∧ Below W1.heap.size W1 W' ∧ ∀ k, k < W1.heap.size → blk (.slice a5 (na + 1 + nb) c5) k = 0) := by
  refine (concat_item W S _ _ _ na 1 nb (flat la) [.string y.1, .string y.2] (flat lb) hS ((hA.on hb).items.src (flat_one _)) (src_one h0) ((hB.on hb).items.src (flat_one _)) (by omega) (by omega) (by omega)).mono ?_
  rintro _ W5 ⟨v5, rfl, hr5, hb5, ho5⟩
  obtain ⟨a5, c5, rfl⟩ := owns_slice hr5
  have hb15 : Below W1.heap.size W1 W5 := hb.trans (hb5.mono hb.size)
  have hp : W5.heap[pa]? = _ := (hA.on hb15).heap
  refine ⟨a5, c5, rfl, hp, lt_of_heap hp, hid ⟨?_, hb15, fun k hk => ho5 k (Nat.lt_of_lt_of_le hk hb.size)⟩⟩
  have e : flat (la ++ y :: lb) = flat la ++ [.string y.1, .string y.2] ++ flat lb := by rw [flat_append]; simp [flat]
  rw [e]
  exact hr5
/-- The same of its second. -/
theorem merge_kids (W1 : World) (pa pb : Nat) (ia : Value) (ro uo : Option Addr) (rc uc na nb ma mb : Nat) (ib : Value) (la lb : List It) (ak bk : List Kid) (hA : Nd W1 pa ia (.slice ro ma rc) na la ma ak) (hB : Nd W1 pb ib (.slice uo mb uc) nb lb mb bk) (hma : ma ≤ 50) (hmb : mb ≤ 50)
    (W : World) (S : Nat) (hb : Below W1.heap.size W1 W) (hS : W.heap[S]? = some (.cells #[.slice ro ma rc, .slice uo mb uc] 116)) :
    Calls Try.prog 152 #[.slice (some ⟨S, 0, none⟩) 2 2] W fun en W' => ∃ a5 c5, en = .returned (.slice a5 (ma + mb) c5) ∧ W'.heap[pa]? = some (.cells #[ia, .slice ro ma rc] 118) ∧ pa < W'.heap.size ∧ Hid (Row W' 110 1 (.slice a5 (ma + mb) c5) (ma + mb) (ptrs (ak ++ bk)) ∧ Below W1.heap.size W1 W' ∧ ∀ k, k < W1.heap.size → blk (.slice a5 (ma + mb) c5) k = 0) := by
  refine (concat_ptr W S _ _ ma mb (ptrs ak) (ptrs bk) hS ((hA.on hb).below.src (ptrs_one _)) ((hB.on hb).below.src (ptrs_one _)) (by omega) (by omega)).mono ?_
  rintro _ W5 ⟨v5, rfl, hr5, hb5, ho5⟩
  obtain ⟨a5, c5, rfl⟩ := owns_slice hr5
  have hb15 : Below W1.heap.size W1 W5 := hb.trans (hb5.mono hb.size)
  have hp : W5.heap[pa]? = _ := (hA.on hb15).heap
  refine ⟨a5, c5, rfl, hp, lt_of_heap hp, hid ⟨?_, hb15, fun k hk => ho5 k (Nat.lt_of_lt_of_le hk hb.size)⟩⟩
  rw [ptrs_append]
  exact hr5
/-- A child has been joined with the one behind it. -/
def Joined (W W' : World) (p pa : Nat) (iv bv : Value) (its' : List It) (ks' : List Kid) (A : List It) (ka : List Kid) : Prop :=
  ∃ iv' bv' ia' ba' n' nk' na' ma', Nd W' p iv' bv' n' its' nk' ks' ∧ Nd W' pa ia' ba' na' A ma' ka ∧ Chg (fun k => one p k + (blk iv k + (blk bv k + one pa k)) ≠ 0) W W' ∧
    (∀ k, one p k + (blk iv' k + (blk bv' k + (one pa k + (blk ia' k + blk ba' k)))) ≤ 1) ∧ ∀ k, k < W.heap.size → blk iv' k + (blk bv' k + (blk ia' k + blk ba' k)) ≤ blk iv k + blk bv k
set_option maxRecDepth 100000 in
set_option maxHeartbeats 4000000 in
theorem merge_is (W : World) (p pa pb : Nat) (iv bv ia ba ib bb : Value) (its la lb : List It) (ks ak bk : List Kid) (n na nb nk ma mb : Nat) (hP : Nd W p iv bv (n + 1) its (nk + 1) ks) (hA : Nd W pa ia ba na la ma ak) (hB : Nd W pb ib bb nb lb mb bk)
    (h1 : ∀ k, one p k + (blk iv k + (blk bv k + (one pa k + (blk ia k + (blk ba k + (one pb k + (blk ib k + blk bb k))))))) ≤ 1)
    (i : Nat) (qa qb : Kid) (hqa : ks[i]? = some qa) (hqb : ks[i + 1]? = some qb) (hpa : qa.p = pa) (hpb : qb.p = pb) (y : It) (hy : its[i]? = some y) (hni : n ≤ 50) (hna : na ≤ 50) (hnb : nb ≤ 50) (hnk : nk ≤ 50) (hma : ma ≤ 50) (hmb : mb ≤ 50) :
    Calls Try.prog 144 #[.pointer (some ⟨p, 0, none⟩), .int .i64 i] W fun e W' => e = .returned (.tuple #[]) ∧ Joined W W' p pa iv bv (its.take i ++ its.drop (i + 1)) (ks.take (i + 1) ++ ks.drop (i + 2)) (la ++ y :: lb) (ak ++ bk) := by
  obtain ⟨io, ic, rfl⟩ := owns_slice hP.items
  obtain ⟨bo, bc, rfl⟩ := owns_slice hP.below
  obtain ⟨ao, ac, rfl⟩ := owns_slice hA.items
  obtain ⟨ro, rc, rfl⟩ := owns_slice hA.below
  obtain ⟨vo, vc, rfl⟩ := owns_slice hB.items
  obtain ⟨uo, uc, rfl⟩ := owns_slice hB.below
  have hin : i < n + 1 := by rw [← hP.li]; exact (List.getElem?_eq_some_iff.1 hy).1
  have hik : i + 1 < nk + 1 := by rw [← hP.lk]; exact (List.getElem?_eq_some_iff.1 hqb).1
  obtain ⟨rk, rfl, c1, l1⟩ := kid_cell hP.below hqa hP.lk
  obtain ⟨rk2, hrk, c2, l2⟩ := kid_cell hP.below hqb hP.lk
  obtain rfl : rk2 = rk := by injection hrk with h; injection h with h; exact h.symm
  rw [hpa] at c1
  rw [hpb] at c2
  have g1 := fun i => cell_of_row W p i _ _ (0, 0) hP.heap
  have m1 := lt_of_heap hP.heap
  have ei : IntKind.i64.wrap ((i : Int) + 1) = (i : Int) + 1 := IntWalk.i64_in _ (by omega)
  have ej : IntKind.i64.wrap ((i : Int) + 2) = (i : Int) + 2 := IntWalk.i64_in _ (by omega)
  have hikI : (i : Int) < ((nk + 1 : Nat) : Int) := by omega
  have hikJ : (i : Int) + 1 < ((nk + 1 : Nat) : Int) := by omega
  have HP := hid hP
  have HA := hid hA
  have HB := hid hB
  have H1 := hid h1
  clear hP hA hB h1
  go_enter Try.func144, Try.ntmps144
  go_wp2_with fail
  go_region
  have hb1 : Below W.heap.size W W.drew := (Below.refl _ _).drew
  generalize W.drew = W1 at hb1 ⊢
  have HP1 := hid (HP.out.on hb1)
  have HA1 := hid (HA.out.on hb1)
  have HB1 := hid (HB.out.on hb1)
  have HBL := hid hb1
  have gA := fun i => cell_of_row W1 pa i _ _ (0, 0) HA1.out.heap
  have mA := lt_of_heap HA1.out.heap
  have gB := fun i => cell_of_row W1 pb i _ _ (0, 0) HB1.out.heap
  have mB := lt_of_heap HB1.out.heap
  have gP := fun i => cell_of_row W1 p i _ _ (0, 0) HP1.out.heap
  have mP := lt_of_heap HP1.out.heap
  obtain ⟨ri, rfl, y1, y2, ly⟩ := item_cell HP1.out.items hy HP.out.li
  have hiI : (i : Int) < ((n + 1 : Nat) : Int) := by omega
  clear hb1 c1 c2 l1 l2 g1 m1
  have hA1p := HA1.out.heap
  go_upto_region 1 with fail
  go_cut [] (fun wc => ∃ a5 c5, wc.heap[pa]? = some (.cells #[.slice a5 (na + 1 + nb) c5, .slice ro ma rc] 118) ∧ Row wc 34 2 (.slice a5 (na + 1 + nb) c5) (na + 1 + nb) (flat (la ++ y :: lb)) ∧ Chg (fun k => k = pa) W1 wc ∧ ∀ k, k < W1.heap.size → blk (.slice a5 (na + 1 + nb) c5) k = 0)
  case first =>
    go_region_with (go_at_call 151; go_must (((with_reducible refine (merge_items W1 pa pb ao ro vo ac rc vc na nb ma mb _ la lb ak bk HA1.out HB1.out hna hnb y _ W1.heap.size (W1.heap.size + 1) (by repeat' (first | exact Below.refl _ _ | with_reducible assumption | omega | with_reducible refine below_put_fut ?_ ?_ _ | with_reducible refine below_to_put ?_ | with_reducible refine Below.alloc ?_ ?_ _ | with_reducible refine Below.fut ?_ ?_ _ | with_reducible refine Below.drew ?_ | with_reducible refine Below.setCell ?_ ?_ _ | with_reducible refine Below.atPut ?_ ?_ _ | (simp [go_sem]; done) | (simp [go_sem]; omega))) (by repeat' (first | rfl | assumption | (with_reducible refine (heap_drew_eq _ _).trans ?_) | (refine (Fut.heap _ _ ?_).trans ?_ ; focus (first | assumption | omega | (simp [go_sem]; done) | (simp [go_sem]; omega))) | (refine (heap_put_at _ _ _ ?_).trans ?_ ; focus (first | assumption | omega | (simp [go_sem]; done) | (simp [go_sem]; omega))) | (refine (heap_put_other _ _ _ _ ?_).trans ?_ ; focus (first | assumption | omega | (simp [go_sem]; done) | (simp [go_sem]; omega))) | (refine (heap_alloc_other _ _ _ ?_).trans ?_ ; focus (first | assumption | omega | (simp [go_sem]; done) | (simp [go_sem]; omega))) | (refine (heap_alloc_at _ _ _ ?_).trans ?_ ; focus (first | assumption | omega | (simp [go_sem]; done) | (simp [go_sem]; omega))) | (simp [go_sem]; done) | (simp [go_sem]; omega))) (by repeat' (first | rfl | assumption | (with_reducible refine (heap_drew_eq _ _).trans ?_) | (refine (Fut.heap _ _ ?_).trans ?_ ; focus (first | assumption | omega | (simp [go_sem]; done) | (simp [go_sem]; omega))) | (refine (heap_put_at _ _ _ ?_).trans ?_ ; focus (first | assumption | omega | (simp [go_sem]; done) | (simp [go_sem]; omega))) | (refine (heap_put_other _ _ _ _ ?_).trans ?_ ; focus (first | assumption | omega | (simp [go_sem]; done) | (simp [go_sem]; omega))) | (refine (heap_alloc_other _ _ _ ?_).trans ?_ ; focus (first | assumption | omega | (simp [go_sem]; done) | (simp [go_sem]; omega))) | (refine (heap_alloc_at _ _ _ ?_).trans ?_ ; focus (first | assumption | omega | (simp [go_sem]; done) | (simp [go_sem]; omega))) | (simp [go_sem]; done) | (simp [go_sem]; omega)))).mono ?_)); rintro _ W5 ⟨a5, c5, rfl, hp5, hl5, HR5⟩; rw [← put_self hp5]))
    all_goals
      go_wp2_with fail
      go_meet
      obtain ⟨hr5, hb5, ho5⟩ := HR5.out
      exact ⟨_, _, heap_put_at _ _ _ hl5, hr5.keep (fun k hk => heap_put_other _ _ _ _ fun e => by subst e; exact hk (ho5 _ mA)), (Chg.of_below (S := fun k => k = pa) hb5).put (fun _ => rfl) _, ho5⟩
  case rest =>
    obtain ⟨we, rfl⟩ : ∃ we, we = wc := ⟨_, rfl⟩
    obtain ⟨a5, c5, hp5, hr5, hc5, ho5⟩ := hcut
    have hPc := HP1.out.chg hc5 (fun k hk hS => by
      have := H1.out k
      subst hS
      rw [one_self] at this
      omega)
    have hBc := HB1.out.chg hc5 (fun k hk hS => by
      have := H1.out k
      subst hS
      rw [one_self] at this
      omega)
    have hAc : Nd we pa (.slice a5 (na + 1 + nb) c5) (.slice ro ma rc) (na + 1 + nb) (la ++ y :: lb) ma ak := ⟨hp5, hr5, HA1.out.below.chg hc5 (fun k hk hS => by
      have := H1.out k
      subst hS
      rw [one_self] at this
      omega), by have := HA.out.li; have := HB.out.li; simp; omega, HA.out.lk⟩
    have HPc := hid hPc
    have HAc := hid hAc
    have HBc := hid hBc
    have HC5 := hid hc5
    have HO5 := hid ho5
    have HMA := hid mA
    clear hp5 hr5 hc5 ho5 gA gP gB y1 y2 ly mA mP mB hA1p hPc hAc hBc
    have gA := fun i => cell_of_row we pa i _ _ (0, 0) HAc.out.heap
    have mA := lt_of_heap HAc.out.heap
    have gB := fun i => cell_of_row we pb i _ _ (0, 0) HBc.out.heap
    have mB := lt_of_heap HBc.out.heap
    go_upto_region 2 with fail
    go_cut [] (fun wf => ∃ a6 c6, wf.heap[pa]? = some (.cells #[.slice a5 (na + 1 + nb) c5, .slice a6 (ma + mb) c6] 118) ∧ Row wf 110 1 (.slice a6 (ma + mb) c6) (ma + mb) (ptrs (ak ++ bk)) ∧ Chg (fun k => k = pa) we wf ∧ ∀ k, k < we.heap.size → blk (.slice a6 (ma + mb) c6) k = 0)
    case first =>
      go_region_with (go_at_call 152; go_must (((with_reducible refine (merge_kids we pa pb _ ro uo rc uc (na + 1 + nb) nb ma mb _ _ lb ak bk HAc.out HBc.out hma hmb _ we.heap.size (by repeat' (first | exact Below.refl _ _ | with_reducible assumption | omega | with_reducible refine below_put_fut ?_ ?_ _ | with_reducible refine below_to_put ?_ | with_reducible refine Below.alloc ?_ ?_ _ | with_reducible refine Below.fut ?_ ?_ _ | with_reducible refine Below.drew ?_ | with_reducible refine Below.setCell ?_ ?_ _ | with_reducible refine Below.atPut ?_ ?_ _ | (simp [go_sem]; done) | (simp [go_sem]; omega))) (by repeat' (first | rfl | assumption | (with_reducible refine (heap_drew_eq _ _).trans ?_) | (refine (Fut.heap _ _ ?_).trans ?_ ; focus (first | assumption | omega | (simp [go_sem]; done) | (simp [go_sem]; omega))) | (refine (heap_put_at _ _ _ ?_).trans ?_ ; focus (first | assumption | omega | (simp [go_sem]; done) | (simp [go_sem]; omega))) | (refine (heap_put_other _ _ _ _ ?_).trans ?_ ; focus (first | assumption | omega | (simp [go_sem]; done) | (simp [go_sem]; omega))) | (refine (heap_alloc_other _ _ _ ?_).trans ?_ ; focus (first | assumption | omega | (simp [go_sem]; done) | (simp [go_sem]; omega))) | (refine (heap_alloc_at _ _ _ ?_).trans ?_ ; focus (first | assumption | omega | (simp [go_sem]; done) | (simp [go_sem]; omega))) | (simp [go_sem]; done) | (simp [go_sem]; omega)))).mono ?_)); rintro _ W5 ⟨a6, c6, rfl, hp5, hl5, HR5⟩; rw [← put_self hp5]))
      all_goals
        go_wp2_with fail
        go_meet
        obtain ⟨hr5, hb5, ho5⟩ := HR5.out
        exact ⟨_, _, heap_put_at _ _ _ hl5, hr5.keep (fun k hk => heap_put_other _ _ _ _ fun e => by subst e; exact hk (ho5 _ mA)), (Chg.of_below (S := fun k => k = pa) hb5).put (fun _ => rfl) _, ho5⟩
    case rest =>
      obtain ⟨a6, c6, hp6, hr6, hc6, ho6⟩ := hcut
      have hP6 := HPc.out.chg hc6 (fun k hk hS => by
        have := H1.out k
        subst hS
        rw [one_self] at this
        omega)
      have hA6 : Nd wc pa (.slice a5 (na + 1 + nb) c5) (.slice a6 (ma + mb) c6) (na + 1 + nb) (la ++ y :: lb) (ma + mb) (ak ++ bk) := ⟨hp6, HAc.out.items.chg hc6 (fun k hk hS => by
        subst hS
        exact hk (HO5.out _ HMA.out)), hr6, HAc.out.li, by have := HA.out.lk; have := HB.out.lk; simp; omega⟩
      have hws := HC5.out.size
      have hs6 := hc6.size
      have h16 : ∀ k, one p k + (blk (.slice (some ⟨ri, 0, none⟩) (n + 1) ic) k + (blk (.slice (some ⟨rk2, 0, none⟩) (nk + 1) bc) k + (one pa k + (blk (.slice a5 (na + 1 + nb) c5) k + blk (.slice a6 (ma + mb) c6) k)))) ≤ 1 := fun k => by
        rcases Nat.lt_or_ge k W1.heap.size with hk | hk
        · have := H1.out k; have := HO5.out k hk; have := ho6 k (by omega); omega
        · have := HP1.out.out hk; have := HA1.out.out hk
          rcases Nat.lt_or_ge k we.heap.size with hk2 | hk2
          · have := ho6 k hk2; have := blk_le (.slice a5 (na + 1 + nb) c5) k; omega
          · have := HAc.out.out hk2; have := blk_le (.slice a6 (ma + mb) c6) k; omega
      have HRI := hid (show ∀ m c k, blk (.slice (some ⟨ri, 0, none⟩) m c) k = one ri k from fun m c k => blk_at _ _ _ _ _ none)
      have HRK := hid (show ∀ m c k, blk (.slice (some ⟨rk2, 0, none⟩) m c) k = one rk2 k from fun m c k => blk_at _ _ _ _ _ none)
      have HP6 := hid hP6
      have HA6 := hid hA6
      have H16 := hid h16
      have HC6 := hid hc6
      have HO6 := hid ho6
      clear hp6 hr6 hc6 ho6 hP6 hA6 h16 gA gB mA mB hws hs6
      have gP := fun i => cell_of_row wc p i _ _ (0, 0) HP6.out.heap
      have mP := lt_of_heap HP6.out.heap
      go_wp2_with fail
      go_at_call 122
      refine (delete_item1 wc ri ic n its HP6.out.items (by omega) i (by omega)).mono ?_
      rintro _ W7 ⟨rfl, hr7, hc7⟩
      have hne7 : p ≠ ri := fun e => by
        have h1 := H16.out ri
        rw [HRI.out, e, one_self] at h1
        omega
      have hbp7 := (hc7.block p mP hne7).trans HP6.out.heap
      have mP7 := lt_of_heap hbp7
      rw [← put_self hbp7]
      go_wp2_with fail
      have hce : Chg (fun k => k = ri ∨ k = p) wc (put W7 p (.cells #[.slice (some ⟨ri, 0, none⟩) n ic, .slice (some ⟨rk2, 0, none⟩) (nk + 1) bc] 118)) := (hc7.mono fun k _ h => .inl h).put (fun _ => .inr rfl) _
      have hAe := HA6.out.chg hce (fun k hk hS => by
        have h1 := H16.out k
        rw [HRI.out] at h1
        rcases hS with rfl | rfl
        · rw [one_self] at h1; omega
        · rw [one_self] at h1; omega)
      have hPe : Nd (put W7 p (.cells #[.slice (some ⟨ri, 0, none⟩) n ic, .slice (some ⟨rk2, 0, none⟩) (nk + 1) bc] 118)) p (.slice (some ⟨ri, 0, none⟩) n ic) (.slice (some ⟨rk2, 0, none⟩) (nk + 1) bc) n (its.take i ++ its.drop (i + 1)) (nk + 1) ks := ⟨heap_put_at _ _ _ mP7, hr7.keep (fun k hk => heap_put_other _ _ _ _ fun e => by rw [HRI.out] at hk; exact hne7 (e.symm.trans (one_ne hk))), HP6.out.below.chg hce (fun k hk hS => by
        have h1 := H16.out k
        rw [HRI.out] at h1
        rcases hS with rfl | rfl
        · rw [one_self] at h1; omega
        · rw [one_self] at h1; omega), by have := HP.out.li; simp; omega, HP.out.lk⟩
      obtain ⟨wf, hwf⟩ : ∃ wf, wf = put W7 p (.cells #[.slice (some ⟨ri, 0, none⟩) n ic, .slice (some ⟨rk2, 0, none⟩) (nk + 1) bc] 118) := ⟨_, rfl⟩
      rw [← hwf] at hce hPe hAe ⊢
      have HPe := hid hPe
      have HAe := hid hAe
      have HCe := hid hce
      clear hce hPe hAe hwf gP mP hr7 hc7 hbp7 mP7
      have gP := fun i => cell_of_row wf p i _ _ (0, 0) HPe.out.heap
      have mP := lt_of_heap HPe.out.heap
      go_wp2_with fail
      go_at_call 150
      refine (delete_ptr1 wf rk2 bc nk ks HPe.out.below (by omega) i (by omega)).mono ?_
      rintro _ W8 ⟨rfl, hr8, hc8⟩
      have hne8 : p ≠ rk2 := fun e => by
        have h1 := H16.out rk2
        rw [HRK.out, e, one_self] at h1
        omega
      have hbp8 := (hc8.block p mP hne8).trans HPe.out.heap
      have mP8 := lt_of_heap hbp8
      rw [← put_self hbp8]
      go_wp2_with fail
      go_end0
      have hcg : Chg (fun k => k = rk2 ∨ k = p) wf (put W8 p (.cells #[.slice (some ⟨ri, 0, none⟩) n ic, .slice (some ⟨rk2, 0, none⟩) nk bc] 118)) := (hc8.mono fun k _ h => .inl h).put (fun _ => .inr rfl) _
      have hPg : Nd (put W8 p (.cells #[.slice (some ⟨ri, 0, none⟩) n ic, .slice (some ⟨rk2, 0, none⟩) nk bc] 118)) p (.slice (some ⟨ri, 0, none⟩) n ic) (.slice (some ⟨rk2, 0, none⟩) nk bc) n (its.take i ++ its.drop (i + 1)) nk (ks.take (i + 1) ++ ks.drop (i + 2)) :=
        ⟨heap_put_at _ _ _ mP8, HPe.out.items.chg hcg (fun k hk hS => by
        have h1 := H16.out k
        rw [HRI.out] at hk h1
        rw [HRK.out] at h1
        rcases hS with rfl | rfl
        · rw [one_self] at h1; omega
        · rw [one_self] at h1; omega), hr8.keep (fun k hk => heap_put_other _ _ _ _ fun e => by rw [HRK.out] at hk; exact hne8 (e.symm.trans (one_ne hk))), HPe.out.li, by have := HP.out.lk; simp; omega⟩
      refine ⟨rfl, _, _, _, _, _, _, _, _, hPg, HAe.out.chg hcg (fun k hk hS => by
        have h1 := H16.out k
        rw [HRK.out] at h1
        rcases hS with rfl | rfl
        · rw [one_self] at h1; omega
        · rw [one_self] at h1; omega), ?_, fun k => by have h1 := H16.out k; rw [HRI.out, HRK.out] at h1 ⊢; exact h1, fun k hk => ?_⟩
      · refine (Chg.of_below HBL.out).trans ((HC5.out.mono fun k _ h => ?_).trans ((HC6.out.mono fun k _ h => ?_).trans ((HCe.out.mono fun k _ h => ?_).trans (hcg.mono fun k _ h => ?_) (fun k _ h => h)) (fun k _ h => h)) (fun k _ h => h)) (fun k _ h => h)
        · subst h; rw [one_self]; omega
        · subst h; rw [one_self]; omega
        · rw [HRI.out]
          rcases h with rfl | rfl
          · rw [one_self]; omega
          · rw [one_self]; omega
        · rw [HRK.out]
          rcases h with rfl | rfl
          · rw [one_self]; omega
          · rw [one_self]; omega
      · have h1 : k < W1.heap.size := Nat.lt_of_lt_of_le hk HBL.out.size
        have := HO5.out k h1
        have := HO6.out k (Nat.lt_of_lt_of_le h1 HC5.out.size)
        rw [HRI.out, HRK.out, HRI.out, HRK.out]
        omega
end Go.Proofs.Ythknenhcnpgkcaa
