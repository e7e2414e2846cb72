import Derived.Test.YthknenhcnpgkcaaRef2
import Derived.Deep.Cut
import Derived.Deep.DeepCutAuto
import Derived.Great.Walk
/- The document's own shelf: Put, walked. -/
namespace Go.Proofs.Ythknenhcnpgkcaa
open Go.RowKit
set_option linter.unusedVariables false
set_option linter.unusedSimpArgs false
/-- What Put leaves: block g is the document's shelf that holds xs, in a row of its own or in the old one. -/
def RefP (most : Int) (g : Nat) (v : Value) (W : World) (xs : List It) (W' : World) : Prop :=
  ∃ v', W'.heap[g]? = some (refObj most v') ∧ Row W' 34 2 v' xs.length (flat xs) ∧ Chg (fun k => k = g) W W' ∧ ∀ k, k < W.heap.size → blk v' k ≤ blk v k
theorem RefP.same {most : Int} {g : Nat} {v : Value} {W W' : World} {xs : List It} (hg : W.heap[g]? = some (refObj most v)) (hv : Row W 34 2 v xs.length (flat xs)) (hb : Below W.heap.size W W') : RefP most g v W xs W' :=
  ⟨v, (hb.block g (lt_of_heap hg)).trans hg, hv.keep fun k hk => hb.block k (hv.lt hk), Chg.of_below hb, fun _ _ => Nat.le_refl _⟩
theorem append_to {W W2 : World} {v : Value} {n : Nat} {ys : List It} (h : Row W 34 2 v n (flat ys)) (hb : Below W.heap.size W W2) {sv : Value} {m : Nat} {zs : List It} (hs : Src W2 2 sv m (flat zs)) (hn : n + m ≤ 2000) :
    ∃ v' W', (Builtin.append_ #[28, 28] 28 #[v, sv]).run Try.prog W2 = .ok v' W' ∧ (∃ ao c, v' = .slice ao (n + m) c) ∧ Row W' 34 2 v' (n + m) (flat (ys ++ zs)) ∧ Chg (fun k => blk v k ≠ 0) W W' ∧ ∀ k, k < W.heap.size → blk v' k ≤ blk v k := by
  obtain ⟨i0, hi0, hz0, hz1, hz2⟩ := info_parts item_info
  obtain ⟨v', W', hrun, hrow, hch, hle⟩ := append_row (P := Try.prog) W2 28 28 34 i0 _ 2 32 Try.underlying28 hi0 hz0 hz1 hz2 rfl (by omega) v n _ (owns_below h hb) sv m _ hs (by unfold maxLen; omega) (by omega)
  obtain ⟨ao, c, rfl⟩ := owns_slice hrow
  refine ⟨_, W', hrun, ⟨ao, c, rfl⟩, ?_, (Chg.of_below (S := fun k => blk v k ≠ 0) hb).trans hch (fun _ _ h => h), fun k hk => hle k (Nat.lt_of_lt_of_le hk hb.size)⟩
  rw [flat_append]
  exact hrow
set_option maxRecDepth 100000 in
set_option maxHeartbeats 4000000 in
theorem refPut_is (W : World) (g : Nat) (most : Int) (v : Value) (xs : List It) (n : Nat) (hl : xs.length = n) (hn : n ≤ 1000) (hg : W.heap[g]? = some (refObj most v)) (hv : Row W 34 2 v n (flat xs)) (hgv : blk v g = 0) (hr : Rises xs) (k val : ByteArray) (r : Int) (xs' : List It) (he : putL most k val xs = (r, xs')) :
    Calls Try.prog 54 #[.pointer (some ⟨g, 0, none⟩), .string k, .string val] W fun e W' => e = .returned (.int .i64 r) ∧ RefP most g v W xs' W' := by
  have hfin := hid (fun (W' : World) (hb : Below W.heap.size W W') => RefP.same (most := most) hg (by rw [hl]; exact hv) hb)
  obtain ⟨bk, hbk⟩ : ∃ bk, decide (k.size < 1 ∨ 16 < k.size) = bk := ⟨_, rfl⟩
  obtain ⟨bv, hbv⟩ : ∃ bv, decide (16 < val.size) = bv := ⟨_, rfl⟩
  cases bk with
  | true =>
    have hk := of_decide_eq_true hbk
    unfold putL at he
    rw [if_pos hk] at he
    obtain ⟨rfl, rfl⟩ := Prod.mk.inj he
    clear he hg hv hgv hr hk
    go_enter Try.func54, Try.ntmps54
    go_wp2_with (first | (go_at_call 64; ((with_reducible refine (refKey_is _ k true hbk).mono ?_)); rintro _ _ ⟨rfl, u, rfl⟩; (try (rw [Fut.put_self u (by first | assumption | (simp [go_sem]; done) | (simp [go_sem]; omega))]))) | (((with_reducible refine wp_region_fut_lit (by kernel_rfl) (by kernel_rfl) ?_)); (repeat (go_big_quiet_step ((first | (go_at_call 64; with_reducible exact Calls.fut_of (refKey_is _ k true hbk)))))); ((with_reducible refine wpQuiet_nil ?_)); rintro _ ⟨u, rfl⟩; (try (rw [Fut.put_self u (by first | assumption | (simp [go_sem]; done) | (simp [go_sem]; omega))]))))
    go_ret
    exact ⟨rfl, hfin.out _ u.below⟩
  | false =>
    have hk := of_decide_eq_false hbk
    cases bv with
    | true =>
      have hw := of_decide_eq_true hbv
      unfold putL at he
      rw [if_neg hk, if_pos hw] at he
      obtain ⟨rfl, rfl⟩ := Prod.mk.inj he
      clear he hg hv hgv hr hk hw
      go_enter Try.func54, Try.ntmps54
      go_wp2_with (first | (go_at_call 64; ((with_reducible refine (refKey_is _ k false hbk).mono ?_)); rintro _ _ ⟨rfl, u, rfl⟩; (try (rw [Fut.put_self u (by first | assumption | (simp [go_sem]; done) | (simp [go_sem]; omega))]))) | (go_at_call 65; ((with_reducible refine (refValue_is _ val true hbv).mono ?_)); rintro _ _ ⟨rfl, u, rfl⟩; (try (rw [Fut.put_self u (by first | assumption | (simp [go_sem]; done) | (simp [go_sem]; omega))]))) | (((with_reducible refine wp_region_fut_lit (by kernel_rfl) (by kernel_rfl) ?_)); (repeat (go_big_quiet_step ((first | (go_at_call 64; with_reducible exact Calls.fut_of (refKey_is _ k false hbk)) | (go_at_call 65; with_reducible exact Calls.fut_of (refValue_is _ val true hbv)))))); ((with_reducible refine wpQuiet_nil ?_)); rintro _ ⟨u, rfl⟩; (try (rw [Fut.put_self u (by first | assumption | (simp [go_sem]; done) | (simp [go_sem]; omega))]))))
      go_ret
      exact ⟨rfl, hfin.out _ (by repeat' (first | exact Below.refl _ _ | with_reducible assumption | omega | with_reducible refine below_put_fut ?_ ?_ _ | with_reducible refine below_to_put ?_ | with_reducible refine Below.alloc ?_ ?_ _ | with_reducible refine Below.fut ?_ ?_ _ | with_reducible refine Below.drew ?_ | with_reducible refine Below.setCell ?_ ?_ _ | with_reducible refine Below.atPut ?_ ?_ _ | (simp [go_sem]; done) | (simp [go_sem]; omega)))⟩
    | false =>
      have hw := of_decide_eq_false hbv
      obtain ⟨at_, is, hp⟩ : ∃ a b, placeOf k xs = (a, b) := ⟨_, _, rfl⟩
      obtain ⟨q1, q2⟩ := putL_place (most := most) (v := val) hr hk hw hp
      have hat : at_ ≤ n := by have := placeOf_le k xs; rw [hp, hl] at this; exact this
      have hgl := lt_of_heap hg
      have hA := hid (fun (X : World) (hb : Below W.heap.size W X) => refAt_is X g most v xs n hl hn ((hb.block g hgl).trans hg) ((hv.src (flat_one _)).heap hb) hr k at_ is hp)
      have HS := hid (fun (X : World) (hb : Below W.heap.size W X) => (hv.src (flat_one _)).heap hb)
      have HG := hid (fun (X : World) (hb : Below W.heap.size W X) => (hb.block g hgl).trans hg)
      have HV := hid hv
      have HGV := hid hgv
      have HE := hid he
      have HL := hid hl
      obtain ⟨ao, cap, rfl⟩ := owns_slice hv
      have hnc : n ≤ cap := by
        rcases hv.2 with ⟨h, h0⟩ | ⟨g', c, cur, hv', _, _, hnc, _⟩
        · omega
        · injection hv' with _ _ h3; omega
      clear he hg hv hgv hr hk hw hp hl
      go_enter Try.func54, Try.ntmps54
      go_wp2_with (first | (go_at_call 64; ((with_reducible refine (refKey_is _ k false hbk).mono ?_)); rintro _ _ ⟨rfl, u, rfl⟩; (try (rw [Fut.put_self u (by first | assumption | (simp [go_sem]; done) | (simp [go_sem]; omega))]))) | (go_at_call 65; ((with_reducible refine (refValue_is _ val false hbv).mono ?_)); rintro _ _ ⟨rfl, u, rfl⟩; (try (rw [Fut.put_self u (by first | assumption | (simp [go_sem]; done) | (simp [go_sem]; omega))]))) | (((with_reducible refine wp_region_fut_lit (by kernel_rfl) (by kernel_rfl) ?_)); (repeat (go_big_quiet_step ((first | (go_at_call 64; with_reducible exact Calls.fut_of (refKey_is _ k false hbk)) | (go_at_call 65; with_reducible exact Calls.fut_of (refValue_is _ val false hbv)))))); ((with_reducible refine wpQuiet_nil ?_)); rintro _ ⟨u, rfl⟩; (try (rw [Fut.put_self u (by first | assumption | (simp [go_sem]; done) | (simp [go_sem]; omega))]))))
      (((with_reducible refine (hA.out _ (by repeat' (first | exact Below.refl _ _ | with_reducible assumption | omega | with_reducible refine below_put_fut ?_ ?_ _ | with_reducible refine below_to_put ?_ | with_reducible refine Below.alloc ?_ ?_ _ | with_reducible refine Below.fut ?_ ?_ _ | with_reducible refine Below.drew ?_ | with_reducible refine Below.setCell ?_ ?_ _ | with_reducible refine Below.atPut ?_ ?_ _ | (simp [go_sem]; done) | (simp [go_sem]; omega)))).mono ?_)); rintro _ _ ⟨rfl, u3, rfl⟩)
      have hbX : Below W.heap.size W u3.val := (by repeat' (first | exact Below.refl _ _ | with_reducible assumption | omega | with_reducible refine below_put_fut ?_ ?_ _ | with_reducible refine below_to_put ?_ | with_reducible refine Below.alloc ?_ ?_ _ | with_reducible refine Below.fut ?_ ?_ _ | with_reducible refine Below.drew ?_ | with_reducible refine Below.setCell ?_ ?_ _ | with_reducible refine Below.atPut ?_ ?_ _ | (simp [go_sem]; done) | (simp [go_sem]; omega)))
      generalize u3.val = X at hbX ⊢
      have hgX := HG.out X hbX
      have hgl2 := lt_of_heap hgX
      have hc := fun i => cell_of_row X g i _ _ (0, 0) hgX
      have HGX := hid hgX
      have SX := hid (HS.out X hbX)
      have HBX := hid hbX
      obtain ⟨A1, hA1⟩ : ∃ A, A = (if cap = at_ then ao else ao.map (·.add (at_ * 2))) := ⟨_, rfl⟩
      obtain ⟨A2, hA2⟩ : ∃ A, A = (if cap = at_ + 1 then ao else ao.map (·.add ((at_ + 1) * 2))) := ⟨_, rfl⟩
      have s1 : ∀ W, (Instr.slice 28 (.slice ao n cap) (some (.int .i64 (at_ : Int))) none none).run Try.prog W = .ok (.slice A1 (n - at_) (cap - at_)) W := fun W => by rw [hA1]; exact slice_from ao n cap at_ hat hnc W
      have s3 := fun W => slice_to ao n cap at_ (by omega) W
      clear hgX hbk hbv hA HG hbX
      cases is with
      | true =>
        obtain ⟨hq, hlt⟩ := q1 rfl
        rw [HL.out] at hlt
        rw [hq] at HE
        obtain ⟨rfl, rfl⟩ := Prod.mk.inj HE.out
        have e1 : IntKind.i64.wrap ((at_ : Int) + 1) = (at_ : Int) + 1 := IntWalk.i64_in _ (by omega)
        have s2 : ∀ W, (Instr.slice 28 (.slice ao n cap) (some (.int .i64 ((at_ : Int) + 1))) none none).run Try.prog W = .ok (.slice A2 (n - (at_ + 1)) (cap - (at_ + 1))) W := fun W => by
          rw [hA2, show (at_ : Int) + 1 = ((at_ + 1 : Nat) : Int) by omega]; exact slice_from ao n cap (at_ + 1) (by omega) hnc W
        have HA2 := hid hA2
        clear q1 q2 hq HE hA1 hA2
        have SP := hid (slice_pre SX.out hat HL.out)
        have SR0 := hid (show Src X 2 (.slice A2 (n - (at_ + 1)) (cap - (at_ + 1))) (n - (at_ + 1)) (flat (xs.drop (at_ + 1))) from by
          have h := slice_src (i := at_ + 1) (j := n - (at_ + 1)) HL.out SX.out hnc (by omega)
          rw [List.take_of_length_le (by rw [List.length_drop, HL.out]; exact Nat.le_refl _), ← HA2.out] at h
          exact h)
        go_upto_region 13 with fail
        refine wp_region_lit ?_
        refine Go.Great.wpList_runTo rfl (some 52) rfl (.pointer (some ⟨g, 0, none⟩)) X (by simp [execOp, Act.eval, Act.put, go_sem, *]) ?_
        simp only [Act.put, List.setIfInBounds_toArray, List.set_cons_succ, List.set_cons_zero]
        refine Go.Great.wpList_runTo rfl (some 53) rfl (.pointer (some ⟨g, 0, none⟩)) X (by simp [execOp, Act.eval, Act.put, go_sem, *]) ?_
        simp only [Act.put, List.setIfInBounds_toArray, List.set_cons_succ, List.set_cons_zero]
        refine Go.Great.wpList_runTo rfl (some 54) rfl (.pointer (some ⟨g, 0, none⟩)) X (by simp [execOp, Act.eval, Act.put, go_sem, *]) ?_
        simp only [Act.put, List.setIfInBounds_toArray, List.set_cons_succ, List.set_cons_zero]
        refine Go.Great.wpList_runTo rfl (some 55) rfl (.pointer (some ⟨g, 1, none⟩)) X (by simp [execOp, Act.eval, Act.put, go_sem, *]) ?_
        simp only [Act.put, List.setIfInBounds_toArray, List.set_cons_succ, List.set_cons_zero]
        refine Go.Great.wpList_runTo rfl (some 56) rfl (.slice ao n cap) X (by simp [execOp, Act.eval, Act.put, go_sem, *]) ?_
        simp only [Act.put, List.setIfInBounds_toArray, List.set_cons_succ, List.set_cons_zero]
        refine Go.Great.wpList_runTo rfl (some 57) rfl (.int .i64 at_) X (by simp [execOp, Act.eval, Act.put, go_sem, *]) ?_
        simp only [Act.put, List.setIfInBounds_toArray, List.set_cons_succ, List.set_cons_zero]
        refine Go.Great.wpList_runTo rfl (some 58) rfl (.slice ao at_ cap) X (by simp [execOp, Act.eval, Act.put, go_sem, *]) ?_
        simp only [Act.put, List.setIfInBounds_toArray, List.set_cons_succ, List.set_cons_zero]
        refine wpList_append_ex (by rfl) _ _ _ (by rfl) _ _ (by rfl) (by rfl) (append_to (W := X) (W2 := X) (ys := []) (World.ownsRow_nil _ _ _ _) (Below.refl _ _) (zs := xs.take at_) SP.out (by omega)) ?_
        rintro v1 W1 ⟨⟨ao1, c1, rfl⟩, h1, ch1, b1⟩
        have hB1 : Below X.heap.size X W1 := ch1.below (Nat.le_refl _) (fun k hk => absurd (blk_nil 0 0 k) hk)
        have z1 := hB1.size
        have H1 := hid h1
        have HB1 := hid hB1
        have B1 := hid (show ∀ k, k < X.heap.size → blk (.slice ao1 (0 + at_) c1) k = 0 from fun k hk => by have := b1 k hk; rw [blk_nil] at this; omega)
        clear h1 ch1 b1 hB1
        simp only [Act.put, List.setIfInBounds_toArray, List.set_cons_succ, List.set_cons_zero]
        refine Go.Great.wpList_runTo rfl (some 60) rfl (.string k) W1 (by simp [execOp, Act.eval, Act.put, go_sem, *]) ?_
        simp only [Act.put, List.setIfInBounds_toArray, List.set_cons_succ, List.set_cons_zero]
        refine Go.Great.wpList_runTo rfl (some 61) rfl (.string val) W1 (by simp [execOp, Act.eval, Act.put, go_sem, *]) ?_
        simp only [Act.put, List.setIfInBounds_toArray, List.set_cons_succ, List.set_cons_zero]
        refine Go.Great.wpList_runTo rfl (some 62) rfl (.agg #[.string k, .string val]) W1 (by simp [execOp, Act.eval, Act.put, go_sem, *]) ?_
        simp only [Act.put, List.setIfInBounds_toArray, List.set_cons_succ, List.set_cons_zero]
        refine Go.Great.wpList_runTo rfl (some 63) rfl (.slice (some ⟨W1.heap.size, 0, none⟩) 1 1) (W1.alloc (.cells #[.string k, .string val] 34)) (by simp [execOp, Act.eval, Act.put, go_sem, *]) ?_
        simp only [Act.put, List.setIfInBounds_toArray, List.set_cons_succ, List.set_cons_zero]
        refine wpList_append_ex (by rfl) _ _ _ (by rfl) _ _ (by rfl) (by rfl) (append_one (W := W1) (x := (k, val)) H1.out ((Below.refl _ _).alloc (Nat.le_refl _) _) (by omega) (heap_alloc_at _ _ _ rfl)) ?_
        rintro v2 W2 ⟨⟨ao2, c2, rfl⟩, h2, ch2, b2⟩
        have hB2 : Below X.heap.size X W2 := HB1.out.trans (ch2.below z1 (fun k hk => Nat.le_of_not_lt fun h => hk (B1.out k h)))
        have z2 := hB2.size
        have H2 := hid h2
        have HB2 := hid hB2
        have B2 := hid (show ∀ k, k < X.heap.size → blk (.slice ao2 (0 + at_ + 1) c2) k = 0 from fun k hk => by have := b2 k (by omega); have := B1.out k hk; omega)
        have SR := hid (SR0.out.heap hB2)
        clear h2 ch2 b2 hB2
        simp only [Act.put, List.setIfInBounds_toArray, List.set_cons_succ, List.set_cons_zero]
        refine Go.Great.wpList_runTo rfl (some 65) rfl (.slice A2 (n - (at_ + 1)) (cap - (at_ + 1))) W2 (by simp [execOp, Act.eval, Act.put, go_sem, *]) ?_
        simp only [Act.put, List.setIfInBounds_toArray, List.set_cons_succ, List.set_cons_zero]
        refine wpList_append_ex (by rfl) _ _ _ (by rfl) _ _ (by rfl) (by rfl) (append_to (W := W2) (W2 := W2) H2.out (Below.refl _ _) (zs := xs.drop (at_ + 1)) SR.out (by omega)) ?_
        rintro v3 W3 ⟨⟨ao3, c3, rfl⟩, h3, ch3, b3⟩
        simp only [Act.put, List.setIfInBounds_toArray, List.set_cons_succ, List.set_cons_zero]
        have hB3 : Below X.heap.size X W3 := HB2.out.trans (ch3.below z2 (fun k hk => Nat.le_of_not_lt fun h => hk (B2.out k h)))
        have z3 := hB3.size
        have B3 := hid (show ∀ k, k < X.heap.size → blk (.slice ao3 (0 + at_ + 1 + (n - (at_ + 1))) c3) k = 0 from fun k hk => by have := b3 k (by omega); have := B2.out k hk; omega)
        have hg3 : W3.heap[g]? = some (refObj most (.slice ao n cap)) := (hB3.block g hgl2).trans HGX.out
        have H3 := hid h3
        have HB3 := hid hB3
        have hl3 := lt_of_heap hg3
        clear h3 ch3 b3 hB3 hc
        rw [← put_self hg3]
        clear hg3
        go_wp2
        go_ret
        have hXW := HBX.out.size
        have b3 := B3.out
        have h3 := H3.out
        simp only [Nat.zero_add, List.nil_append] at b3 h3
        have hlen : (xs.take at_ ++ (k, val) :: xs.drop (at_ + 1)).length = at_ + 1 + (n - (at_ + 1)) := by simp [HL.out]; omega
        refine ⟨rfl, _, heap_put_at _ _ _ hl3, ?_, (Chg.of_below (S := fun k => k = g) (HBX.out.trans (HB3.out.mono hXW))).put (fun _ => rfl) _, fun k hk => by rw [b3 k (by omega)]; omega⟩
        rw [hlen]
        refine Row.keep (by simpa using h3) fun k hk => ?_
        rw [heap_put_other]
        rintro rfl
        exact hk (b3 _ hgl2)
      | false =>
        clear q1
        have q3 := q2 rfl
        clear q2
        rw [HL.out] at q3
        by_cases hfull : most ≤ n
        · have hq := q3.1 hfull
          rw [hq] at HE
          obtain ⟨rfl, rfl⟩ := Prod.mk.inj HE.out
          have df : decide (most ≤ (n : Int)) = true := decide_eq_true hfull
          clear q3 hq HE hA1 hA2 SX hfull
          have hbX := HBX.out
          have hzX := hbX.size
          go_wp2_with (first | (((with_reducible refine wp_region_fut_lit (by kernel_rfl) (by kernel_rfl) ?_)); (repeat (go_big_quiet_step ((first | fail)))); ((with_reducible refine wpQuiet_nil ?_)); rintro _ ⟨u, rfl⟩; (try (rw [Fut.put_self u (by first | assumption | (simp [go_sem]; done) | (simp [go_sem]; omega))]))))
          go_ret
          exact ⟨rfl, hfin.out _ (by repeat' (first | exact Below.refl _ _ | with_reducible assumption | omega | with_reducible refine below_put_fut ?_ ?_ _ | with_reducible refine below_to_put ?_ | with_reducible refine Below.alloc ?_ ?_ _ | with_reducible refine Below.fut ?_ ?_ _ | with_reducible refine Below.drew ?_ | with_reducible refine Below.setCell ?_ ?_ _ | with_reducible refine Below.atPut ?_ ?_ _ | (simp [go_sem]; done) | (simp [go_sem]; omega)))⟩
        · have hq := q3.2 (by omega)
          rw [hq] at HE
          obtain ⟨rfl, rfl⟩ := Prod.mk.inj HE.out
          have HA1 := hid hA1
          have df : decide (most ≤ (n : Int)) = false := decide_eq_false hfull
          clear q3 hq HE hA1 hA2 hfull
          go_upto_region 11 with fail
          refine wp_region_fut_lit (by kernel_rfl) (by kernel_rfl) ?_
          repeat (go_big_quiet_step (fail))
          refine wpQuiet_nil ?_
          rintro _ ⟨u5, rfl⟩
          have hb5 : Below W.heap.size W u5.val := HBX.out.trans (u5.below.mono HBX.out.size)
          have HGX := hid ((u5.below.block g hgl2).trans HGX.out)
          have SX := hid (HS.out _ hb5)
          have HBX := hid hb5
          have hgl2 := lt_of_heap HGX.out
          have hc := fun i => cell_of_row u5.val g i _ _ (0, 0) HGX.out
          clear hb5
          generalize u5.val = X5 at HGX SX HBX hgl2 hc ⊢
          have SP := hid (slice_pre SX.out hat HL.out)
          have SR0 := hid (show Src X5 2 (.slice A1 (n - (at_)) (cap - (at_))) (n - (at_)) (flat (xs.drop (at_))) from by
            have h := slice_src (i := at_) (j := n - (at_)) HL.out SX.out hnc (by omega)
            rw [List.take_of_length_le (by rw [List.length_drop, HL.out]; exact Nat.le_refl _), ← HA1.out] at h
            exact h)
          go_upto_region 13 with fail
          refine wp_region_lit ?_
          refine Go.Great.wpList_runTo rfl (some 52) rfl (.pointer (some ⟨g, 0, none⟩)) X5 (by simp [execOp, Act.eval, Act.put, go_sem, *]) ?_
          simp only [Act.put, List.setIfInBounds_toArray, List.set_cons_succ, List.set_cons_zero]
          refine Go.Great.wpList_runTo rfl (some 53) rfl (.pointer (some ⟨g, 0, none⟩)) X5 (by simp [execOp, Act.eval, Act.put, go_sem, *]) ?_
          simp only [Act.put, List.setIfInBounds_toArray, List.set_cons_succ, List.set_cons_zero]
          refine Go.Great.wpList_runTo rfl (some 54) rfl (.pointer (some ⟨g, 0, none⟩)) X5 (by simp [execOp, Act.eval, Act.put, go_sem, *]) ?_
          simp only [Act.put, List.setIfInBounds_toArray, List.set_cons_succ, List.set_cons_zero]
          refine Go.Great.wpList_runTo rfl (some 55) rfl (.pointer (some ⟨g, 1, none⟩)) X5 (by simp [execOp, Act.eval, Act.put, go_sem, *]) ?_
          simp only [Act.put, List.setIfInBounds_toArray, List.set_cons_succ, List.set_cons_zero]
          refine Go.Great.wpList_runTo rfl (some 56) rfl (.slice ao n cap) X5 (by simp [execOp, Act.eval, Act.put, go_sem, *]) ?_
          simp only [Act.put, List.setIfInBounds_toArray, List.set_cons_succ, List.set_cons_zero]
          refine Go.Great.wpList_runTo rfl (some 57) rfl (.int .i64 at_) X5 (by simp [execOp, Act.eval, Act.put, go_sem, *]) ?_
          simp only [Act.put, List.setIfInBounds_toArray, List.set_cons_succ, List.set_cons_zero]
          refine Go.Great.wpList_runTo rfl (some 58) rfl (.slice ao at_ cap) X5 (by simp [execOp, Act.eval, Act.put, go_sem, *]) ?_
          simp only [Act.put, List.setIfInBounds_toArray, List.set_cons_succ, List.set_cons_zero]
          refine wpList_append_ex (by rfl) _ _ _ (by rfl) _ _ (by rfl) (by rfl) (append_to (W := X5) (W2 := X5) (ys := []) (World.ownsRow_nil _ _ _ _) (Below.refl _ _) (zs := xs.take at_) SP.out (by omega)) ?_
          rintro v1 W1 ⟨⟨ao1, c1, rfl⟩, h1, ch1, b1⟩
          have hB1 : Below X5.heap.size X5 W1 := ch1.below (Nat.le_refl _) (fun k hk => absurd (blk_nil 0 0 k) hk)
          have z1 := hB1.size
          have H1 := hid h1
          have HB1 := hid hB1
          have B1 := hid (show ∀ k, k < X5.heap.size → blk (.slice ao1 (0 + at_) c1) k = 0 from fun k hk => by have := b1 k hk; rw [blk_nil] at this; omega)
          clear h1 ch1 b1 hB1
          simp only [Act.put, List.setIfInBounds_toArray, List.set_cons_succ, List.set_cons_zero]
          refine Go.Great.wpList_runTo rfl (some 60) rfl (.string k) W1 (by simp [execOp, Act.eval, Act.put, go_sem, *]) ?_
          simp only [Act.put, List.setIfInBounds_toArray, List.set_cons_succ, List.set_cons_zero]
          refine Go.Great.wpList_runTo rfl (some 61) rfl (.string val) W1 (by simp [execOp, Act.eval, Act.put, go_sem, *]) ?_
          simp only [Act.put, List.setIfInBounds_toArray, List.set_cons_succ, List.set_cons_zero]
          refine Go.Great.wpList_runTo rfl (some 62) rfl (.agg #[.string k, .string val]) W1 (by simp [execOp, Act.eval, Act.put, go_sem, *]) ?_
          simp only [Act.put, List.setIfInBounds_toArray, List.set_cons_succ, List.set_cons_zero]
          refine Go.Great.wpList_runTo rfl (some 63) rfl (.slice (some ⟨W1.heap.size, 0, none⟩) 1 1) (W1.alloc (.cells #[.string k, .string val] 34)) (by simp [execOp, Act.eval, Act.put, go_sem, *]) ?_
          simp only [Act.put, List.setIfInBounds_toArray, List.set_cons_succ, List.set_cons_zero]
          refine wpList_append_ex (by rfl) _ _ _ (by rfl) _ _ (by rfl) (by rfl) (append_one (W := W1) (x := (k, val)) H1.out ((Below.refl _ _).alloc (Nat.le_refl _) _) (by omega) (heap_alloc_at _ _ _ rfl)) ?_
          rintro v2 W2 ⟨⟨ao2, c2, rfl⟩, h2, ch2, b2⟩
          have hB2 : Below X5.heap.size X5 W2 := HB1.out.trans (ch2.below z1 (fun k hk => Nat.le_of_not_lt fun h => hk (B1.out k h)))
          have z2 := hB2.size
          have H2 := hid h2
          have HB2 := hid hB2
          have B2 := hid (show ∀ k, k < X5.heap.size → blk (.slice ao2 (0 + at_ + 1) c2) k = 0 from fun k hk => by have := b2 k (by omega); have := B1.out k hk; omega)
          have SR := hid (SR0.out.heap hB2)
          clear h2 ch2 b2 hB2
          simp only [Act.put, List.setIfInBounds_toArray, List.set_cons_succ, List.set_cons_zero]
          refine Go.Great.wpList_runTo rfl (some 65) rfl (.slice A1 (n - (at_)) (cap - (at_))) W2 (by simp [execOp, Act.eval, Act.put, go_sem, *]) ?_
          simp only [Act.put, List.setIfInBounds_toArray, List.set_cons_succ, List.set_cons_zero]
          refine wpList_append_ex (by rfl) _ _ _ (by rfl) _ _ (by rfl) (by rfl) (append_to (W := W2) (W2 := W2) H2.out (Below.refl _ _) (zs := xs.drop (at_)) SR.out (by omega)) ?_
          rintro v3 W3 ⟨⟨ao3, c3, rfl⟩, h3, ch3, b3⟩
          simp only [Act.put, List.setIfInBounds_toArray, List.set_cons_succ, List.set_cons_zero]
          have hB3 : Below X5.heap.size X5 W3 := HB2.out.trans (ch3.below z2 (fun k hk => Nat.le_of_not_lt fun h => hk (B2.out k h)))
          have z3 := hB3.size
          have B3 := hid (show ∀ k, k < X5.heap.size → blk (.slice ao3 (0 + at_ + 1 + (n - (at_))) c3) k = 0 from fun k hk => by have := b3 k (by omega); have := B2.out k hk; omega)
          have hg3 : W3.heap[g]? = some (refObj most (.slice ao n cap)) := (hB3.block g hgl2).trans HGX.out
          have H3 := hid h3
          have HB3 := hid hB3
          have hl3 := lt_of_heap hg3
          clear h3 ch3 b3 hB3 hc
          rw [← put_self hg3]
          clear hg3
          go_wp2
          go_ret
          have hXW := HBX.out.size
          have b3 := B3.out
          have h3 := H3.out
          simp only [Nat.zero_add, List.nil_append] at b3 h3
          have hlen : (xs.take at_ ++ (k, val) :: xs.drop (at_)).length = at_ + 1 + (n - (at_)) := by simp [HL.out]; omega
          refine ⟨rfl, _, heap_put_at _ _ _ hl3, ?_, (Chg.of_below (S := fun k => k = g) (HBX.out.trans (HB3.out.mono hXW))).put (fun _ => rfl) _, fun k hk => by rw [b3 k (by omega)]; omega⟩
          rw [hlen]
          refine Row.keep (by simpa using h3) fun k hk => ?_
          rw [heap_put_other]
          rintro rfl
          exact hk (b3 _ hgl2)
end Go.Proofs.Ythknenhcnpgkcaa
