/- Texts of this proof, merged: RefA, RefB. -/
import Derived.Test.YthknenhcnpgkcaaGreatMw
import Derived.IntWalk
import Derived.Test.YthknenhcnpgkcaaGreatMh
import Derived.Test.YthknenhcnpgkcaaGreatMr
import Derived.Deep.RegionWith
/- The document's own: Addr, In, the items of an arc. -/
namespace Go.Proofs.YthknenhcnpgkcaaGreat
open Go.RowKit
set_option linter.unusedVariables false
set_option linter.unusedSimpArgs false
theorem u64_small {x : Int} (h : 0 ≤ x) (h2 : x < 18446744073709551616) : IntKind.u64.wrap x = x := by rw [IntKind.wrap_u64]; omega
set_option maxHeartbeats 1000000 in
theorem refAddr_is (a : ByteArray) (ha : a.size ≤ maxLen) (r : Nat) (hr : addrN a.data.toList = r) (w : World) :
    Calls Tryz.prog 31 #[.string a] w (Makes (.int .u64 r) w) := by
  unfold maxLen at ha
  go_enter Tryz.func31, Tryz.ntmps31
  go_wp2
  go_loopw [3, 4] (fun v x wr => ∃ i : Nat, i ≤ 8 ∧ x = .int .i64 i ∧ v = .int .u64 (addrUp a.data.toList i) ∧ ∃ u : Fut w, wr = u.val) (fun _ x _ => 8 - (intOf x).toNat)
  case atStart => exact ⟨0, by omega, rfl, rfl, ⟨⟨w, Below.refl _ _⟩, rfl⟩⟩
  case round =>
    obtain ⟨i, hi, rfl, rfl, u, rfl⟩ := hrel
    have hb := addrUp_lt a.data.toList i
    by_cases hk : i < 8
    · have hp : 256 ^ i ≤ 256 ^ 7 := Nat.pow_le_pow_right (by omega) (by omega)
      have hbd : addrUp a.data.toList i < 72057594037927936 := by omega
      have e1 := u64_small (x := (addrUp a.data.toList i : Int) * 256) (by omega) (by omega)
      clear hb hp
      by_cases hs : i < a.size
      · have HB := hid (byteAt_in a i hs)
        have e2 : IntKind.u64.wrap ((a[i].toNat : Nat) : Int) = (a[i].toNat : Int) := u64_small (by omega) (by have := UInt8.toNat_lt a[i]; omega)
        have e3 := u64_small (x := (addrUp a.data.toList i : Int) * 256 + (a[i].toNat : Int)) (by omega) (by have := UInt8.toNat_lt a[i]; omega)
        go_wp2_with (first | (((with_reducible refine wp_region_fut_lit (by kernel_rfl) (by kernel_rfl) ?_)); (repeat (go_big_quiet_step ((first | fail)))); ((with_reducible refine wpQuiet_nil ?_)); rintro _ ⟨u, rfl⟩; (try (rw [Fut.put_self u (by first | assumption | (simp [go_sem]; done) | (simp [go_sem]; omega))]))))
        go_roundw
        case rel => exact ⟨i + 1, by omega, by go_num, by simp only [addrUp]; rw [HB.out]; simp, ⟨⟨_, (by repeat' (first | exact Below.refl _ _ | with_reducible assumption | omega | with_reducible refine below_put_fut ?_ ?_ _ | with_reducible refine below_to_put ?_ | with_reducible refine Below.alloc ?_ ?_ _ | with_reducible refine Below.fut ?_ ?_ _ | with_reducible refine Below.drew ?_ | with_reducible refine Below.setCell ?_ ?_ _ | with_reducible refine Below.atPut ?_ ?_ _ | (simp [go_sem]; done) | (simp [go_sem]; omega)))⟩, rfl⟩⟩
        case measure => simp [intOf]; omega
      · have HB := hid (byteAt_out a i (by omega))
        go_wp2_with (first | (((with_reducible refine wp_region_fut_lit (by kernel_rfl) (by kernel_rfl) ?_)); (repeat (go_big_quiet_step ((first | fail)))); ((with_reducible refine wpQuiet_nil ?_)); rintro _ ⟨u, rfl⟩; (try (rw [Fut.put_self u (by first | assumption | (simp [go_sem]; done) | (simp [go_sem]; omega))]))))
        go_roundw
        case rel => exact ⟨i + 1, by omega, by go_num, by simp only [addrUp]; rw [HB.out]; simp, ⟨⟨_, (by repeat' (first | exact Below.refl _ _ | with_reducible assumption | omega | with_reducible refine below_put_fut ?_ ?_ _ | with_reducible refine below_to_put ?_ | with_reducible refine Below.alloc ?_ ?_ _ | with_reducible refine Below.fut ?_ ?_ _ | with_reducible refine Below.drew ?_ | with_reducible refine Below.setCell ?_ ?_ _ | with_reducible refine Below.atPut ?_ ?_ _ | (simp [go_sem]; done) | (simp [go_sem]; omega)))⟩, rfl⟩⟩
        case measure => simp [intOf]; omega
    · obtain rfl : i = 8 := by omega
      clear hb
      have HR := hid hr
      clear hr
      go_wp2_with (first | (((with_reducible refine wp_region_fut_lit (by kernel_rfl) (by kernel_rfl) ?_)); (repeat (go_big_quiet_step ((first | fail)))); ((with_reducible refine wpQuiet_nil ?_)); rintro _ ⟨u, rfl⟩; (try (rw [Fut.put_self u (by first | assumption | (simp [go_sem]; done) | (simp [go_sem]; omega))]))))
      go_ret
      exact .mk (by rw [← HR.out]; rfl) (by repeat' (first | exact Below.refl _ _ | with_reducible assumption | omega | with_reducible refine below_put_fut ?_ ?_ _ | with_reducible refine below_to_put ?_ | with_reducible refine Below.alloc ?_ ?_ _ | with_reducible refine Below.fut ?_ ?_ _ | with_reducible refine Below.drew ?_ | with_reducible refine Below.setCell ?_ ?_ _ | with_reducible refine Below.atPut ?_ ?_ _ | (simp [go_sem]; done) | (simp [go_sem]; omega)))
theorem refIn_is (a b x : Int) (r : Bool) (hr : inArc a b x = r) (w : World) : Calls Tryz.prog 32 #[.agg #[.int .u64 a, .int .u64 b], .int .u64 x] w (Makes (.bool r) w) := by
  by_cases h : a = b
  · subst h
    have e : (a == a) = true := by simp
    obtain rfl : r = true := by rw [← hr]; simp [inArc]
    clear hr
    go_enter Tryz.func32, Tryz.ntmps32
    go_wp2_with (first | (((with_reducible refine wp_region_fut_lit (by kernel_rfl) (by kernel_rfl) ?_)); (repeat (go_big_quiet_step ((first | fail)))); ((with_reducible refine wpQuiet_nil ?_)); rintro _ ⟨u, rfl⟩; (try (rw [Fut.put_self u (by first | assumption | (simp [go_sem]; done) | (simp [go_sem]; omega))]))))
    go_ret
    exact .mk rfl (by repeat' (first | exact Below.refl _ _ | with_reducible assumption | omega | with_reducible refine below_put_fut ?_ ?_ _ | with_reducible refine below_to_put ?_ | with_reducible refine Below.alloc ?_ ?_ _ | with_reducible refine Below.fut ?_ ?_ _ | with_reducible refine Below.drew ?_ | with_reducible refine Below.setCell ?_ ?_ _ | with_reducible refine Below.atPut ?_ ?_ _ | (simp [go_sem]; done) | (simp [go_sem]; omega)))
  · have e : (a == b) = false := by simpa using h
    have e2 : decide (IntKind.u64.wrap (x - a) < IntKind.u64.wrap (b - a)) = r := by
      rw [IntKind.wrap_u64, IntKind.wrap_u64, ← hr, inArc, decide_eq_false h, Bool.false_or]
    clear hr h
    go_enter Tryz.func32, Tryz.ntmps32
    go_wp2_with (first | (((with_reducible refine wp_region_fut_lit (by kernel_rfl) (by kernel_rfl) ?_)); (repeat (go_big_quiet_step ((first | fail)))); ((with_reducible refine wpQuiet_nil ?_)); rintro _ ⟨u, rfl⟩; (try (rw [Fut.put_self u (by first | assumption | (simp [go_sem]; done) | (simp [go_sem]; omega))]))))
    go_ret
    exact .mk (by simp [e2]) (by repeat' (first | exact Below.refl _ _ | with_reducible assumption | omega | with_reducible refine below_put_fut ?_ ?_ _ | with_reducible refine below_to_put ?_ | with_reducible refine Below.alloc ?_ ?_ _ | with_reducible refine Below.fut ?_ ?_ _ | with_reducible refine Below.drew ?_ | with_reducible refine Below.setCell ?_ ?_ _ | with_reducible refine Below.atPut ?_ ?_ _ | (simp [go_sem]; done) | (simp [go_sem]; omega)))
end Go.Proofs.YthknenhcnpgkcaaGreat

/- The document's own: the items of an arc. -/
namespace Go.Proofs.YthknenhcnpgkcaaGreat
open Go.RowKit
set_option linter.unusedVariables false
set_option linter.unusedSimpArgs false
/-- v is a list of one's own that holds L; nothing that lay in W1 has changed. -/
structure Out (W1 : World) (L : List It) (v : Value) (W : World) : Prop where
  form : ∃ ao c, v = .slice ao L.length c
  row : Row W 59 2 v L.length (flat L)
  below : Below W1.heap.size W1 W
  fresh : ∀ k, k < W1.heap.size → blk v k = 0
theorem Out.nil (W1 : World) {W : World} (hb : Below W1.heap.size W1 W) : Out W1 [] (.slice none 0 0) W := ⟨⟨none, 0, rfl⟩, World.ownsRow_nil _ _ _ _, hb, fun k _ => blk_nil _ _ _⟩
theorem Out.on {W1 : World} {L : List It} {v : Value} {W W' : World} (h : Out W1 L v W) (hb : Below W.heap.size W W') : Out W1 L v W' :=
  ⟨h.form, h.row.keep fun k hk => hb.block k (h.row.lt hk), h.below.trans (hb.mono h.below.size), h.fresh⟩
theorem Out.app {W1 : World} {L : List It} {v : Value} {W W2 : World} (h : Out W1 L v W) (hb : Below W.heap.size W W2) (hn : L.length ≤ 1000) {S : Nat} {x : It} (hS : W2.heap[S]? = some (.cells #[.string x.1, .string x.2] 59)) :
    ∃ v' W', (Builtin.append_ #[22, 22] 22 #[v, .slice (some ⟨S, 0, none⟩) 1 1]).run Tryz.prog W2 = .ok v' W' ∧ Out W1 (L ++ [x]) v' W' := by
  obtain ⟨v', W', hrun, ⟨ao, c, rfl⟩, hr, hc, hle⟩ := append_one h.row hb hn hS
  refine ⟨_, W', hrun, ⟨ao, c, by rw [List.length_append]; rfl⟩, by rw [List.length_append]; exact hr, h.below.trans (hc.below h.below.size fun i hi => ?_), fun k hk => ?_⟩
  · rcases Nat.lt_or_ge i W1.heap.size with e | e
    · exact absurd (h.fresh i e) hi
    · exact e
  · have := hle k (Nat.lt_of_lt_of_le hk h.below.size)
    have := h.fresh k hk
    omega
/-- Is an item told in a round? -/
def roundP (a b : Int) (z : Bool) (x : It) : Bool := inArc a b (adr x) && (decide (a ≤ adr x) == z)
/-- Told ahead of a round. -/
def roundsL (a b : Int) (xs : List It) : Nat → List It
  | 0 => []
  | r + 1 => roundsL a b xs r ++ xs.filter (roundP a b (decide (r = 0)))
theorem roundsL_two {a b : Int} (ha : 0 ≤ a) (ha2 : a < 18446744073709551616) (hb : 0 ≤ b) (hb2 : b < 18446744073709551616) (xs : List It) : roundsL a b xs 2 = arcL a b xs := by
  rw [arcL_ref ha ha2 hb hb2]
  simp only [roundsL, List.nil_append]
  congr 1
  · refine List.filter_congr fun x _ => ?_
    simp [roundP]
  · refine List.filter_congr fun x _ => ?_
    unfold roundP
    cases inArc a b (adr x) <;> cases decide (a ≤ adr x) <;> rfl
theorem filter_step {α : Type} {xs : List α} {q : Nat} {x : α} (p : α → Bool) (hx : xs[q]? = some x) : (xs.take (q + 1)).filter p = (xs.take q).filter p ++ (if p x then [x] else []) := by
  rw [List.take_add_one, hx, List.filter_append]
  cases h : p x <;> simp [h]
set_option maxRecDepth 100000 in
set_option maxHeartbeats 4000000 in
theorem refArc_is (W : World) (g : Nat) (most : Int) (v : Value) (xs : List It) (n : Nat) (hl : xs.length = n) (hn : n ≤ 400) (hsm : ∀ x ∈ xs, x.1.size ≤ maxLen) (hg : W.heap[g]? = some (refObj most v)) (hs : Src W 2 v n (flat xs)) (a b : Int) (ha : 0 ≤ a) (ha2 : a < 18446744073709551616) (hb : 0 ≤ b) (hb2 : b < 18446744073709551616) :
    Calls Tryz.prog 10 #[.pointer (some ⟨g, 0, none⟩), .agg #[.int .u64 a, .int .u64 b]] W fun e W' => ∃ v', e = .returned v' ∧ Out W (arcL a b xs) v' W' := by
  obtain ⟨ao, cap, rfl⟩ := hs.slice_of
  have hc := fun i => cell_of_row W g i _ _ (0, 0) hg
  have hgl := lt_of_heap hg
  have HS := hid hs
  have HL := hid hl
  have HSM := hid hsm
  have HG := hid hg
  clear hg hs hl hsm
  go_enter Tryz.func10, Tryz.ntmps10
  go_wp2_with fail
  obtain ⟨W1, hW1⟩ : ∃ W1, W1 = W.alloc (.cells #[.int .u64 a, .int .u64 b] 25) := ⟨_, rfl⟩
  have HB1 := hid (show W1.heap[W.heap.size]? = some (.cells #[.int .u64 a, .int .u64 b] 25) by rw [hW1]; exact heap_alloc_at _ _ _ rfl)
  have HBW := hid (show Below W.heap.size W W1 by rw [hW1]; exact (by repeat' (first | exact Below.refl _ _ | with_reducible assumption | omega | with_reducible refine below_put_fut ?_ ?_ _ | with_reducible refine below_to_put ?_ | with_reducible refine Below.alloc ?_ ?_ _ | with_reducible refine Below.fut ?_ ?_ _ | with_reducible refine Below.drew ?_ | with_reducible refine Below.setCell ?_ ?_ _ | with_reducible refine Below.atPut ?_ ?_ _ | (simp [go_sem]; done) | (simp [go_sem]; omega))))
  rw [← hW1]
  have hz1 : W1.heap.size = W.heap.size + 1 := by rw [hW1, World.size_alloc]
  clear hW1 hc
  generalize hWB : W.heap.size = B at HB1 hz1 hgl ⊢
  have HWB := hid (show W.heap.size ≤ B by omega)
  clear hWB
  have HFIN := hid (roundsL_two ha ha2 hb hb2 xs)
  have HLE := hid (show (arcL a b xs).length ≤ 400 from by have := arcL_len_le ha ha2 hb hb2 xs; rw [HL.out] at this; omega)
  have HRL := hid (show ∀ r, (roundsL a b xs r).length ≤ r * n from fun r => by
    induction r with
    | zero => simp [roundsL]
    | succ r ih =>
      rw [roundsL, List.length_append]
      have := List.length_filter_le (roundP a b (decide (r = 0))) xs
      rw [HL.out] at this
      rw [Nat.succ_mul]; omega)
  go_loopw [5, 6] (fun v i wr => ∃ r : Nat, r ≤ 2 ∧ i = .int .i64 r ∧ Hid (Out W1 (roundsL a b xs r) v wr)) (fun _ i _ => 2 - (intOf i).toNat)
  case atStart => exact ⟨0, Nat.zero_le _, rfl, hid (Out.nil W1 (Below.refl _ _))⟩
  case round =>
    obtain ⟨r, hr, rfl, HO⟩ := hrel
    by_cases hlt : r < 2
    · have HRN := hid (show (roundsL a b xs r).length ≤ n from by have := HRL.out r; have := Nat.mul_le_mul_right n (show r ≤ 1 by omega); omega)
      obtain ⟨z, hz⟩ : ∃ z, decide (r = 0) = z := ⟨_, rfl⟩
      have e0 : ((r : Int) == 0) = z := by rw [← hz, Bool.eq_iff_iff]; simp
      have HZ := hid (show roundsL a b xs (r + 1) = roundsL a b xs r ++ xs.filter (roundP a b z) by rw [roundsL, hz])
      clear hz
      have dr : decide ((r : Int) < 2) = true := by simp; omega
      go_wp2_with fail
      clear dr
      go_loopw [5, 7] (fun v i wr => ∃ q : Nat, q ≤ n ∧ i = .int .i64 q ∧ Hid (Out W1 (roundsL a b xs r ++ (xs.take q).filter (roundP a b z)) v wr)) (fun _ i _ => n - (intOf i).toNat)
      case atStart => exact ⟨0, Nat.zero_le _, rfl, hid (by simpa using HO.out)⟩
      case round =>
        clear HO
        obtain ⟨q, hq, rfl, HO⟩ := hrel
        have hbw := HBW.out.trans (HO.out.below.mono (by have := HWB.out; omega))
        have hcg := fun i => cell_of_row wr g i _ _ (0, 0) ((hbw.block g (lt_of_heap HG.out)).trans HG.out)
        have hglr : g < wr.heap.size := Nat.lt_of_lt_of_le (lt_of_heap HG.out) hbw.size
        have hcB := fun i => cell_of_row wr B i _ _ (0, 0) ((HO.out.below.block B (by omega)).trans HB1.out)
        have hBlr : B < wr.heap.size := Nat.lt_of_lt_of_le (by omega) HO.out.below.size
        by_cases hlt2 : q < n
        · obtain ⟨x, hx⟩ : ∃ x, xs[q]? = some x := ⟨xs[q]'(by rw [HL.out]; exact hlt2), List.getElem?_eq_getElem _⟩
          obtain ⟨b1, o1, rfl, p1, p2, p3⟩ := (show Src wr 2 (.slice ao xs.length cap) xs.length (flat xs) by rw [HL.out]; exact HS.out.heap hbw).at_ q x hx
          have l1 : b1 < wr.heap.size := World.block_lt_of_cell? _ _ p1
          have hsx := HSM.out x (List.mem_of_getElem? hx)
          have HSTEP := hid (show roundsL a b xs r ++ (xs.take (q + 1)).filter (roundP a b z) = roundsL a b xs r ++ (xs.take q).filter (roundP a b z) ++ (if roundP a b z x then [x] else []) by rw [filter_step _ hx, List.append_assoc])
          obtain ⟨ad, had⟩ : ∃ ad, addrN x.1.data.toList = ad := ⟨_, rfl⟩
          have HAD := hid (show adr x = ad by unfold adr; rw [had])
          have HLEN := hid (show (roundsL a b xs r ++ (xs.take q).filter (roundP a b z)).length ≤ 1000 from by
            have h1 := List.length_filter_le (roundP a b z) (xs.take q)
            rw [List.length_take] at h1
            have h2 := HRN.out
            rw [List.length_append]; omega)
          clear hx hbw
          go_wp2_with fail
          (((with_reducible refine (refAddr_is x.1 hsx ad had _).mono ?_)); rintro _ _ ⟨rfl, u1, rfl⟩)
          clear had
          obtain ⟨din, hdin⟩ : ∃ d, inArc a b (ad : Int) = d := ⟨_, rfl⟩
          obtain ⟨dge, hdge⟩ : ∃ d, decide (a ≤ (ad : Int)) = d := ⟨_, rfl⟩
          have HIN := hid hdin
          have HD := hid hdge
          go_wp2_with fail
          (((with_reducible refine (refIn_is a b (ad : Int) din hdin _).mono ?_)); rintro _ _ ⟨rfl, u2, rfl⟩)
          clear hdin
          cases din with
          | false =>
            clear hdge
            go_wp2_with fail
            exact ⟨⟨q + 1, by omega, by go_num, hid (by rw [HSTEP.out, show roundP a b z x = false from by unfold roundP; rw [HAD.out, HIN.out]; try rw [HD.out]; try rfl]; simpa using HO.out.on (by repeat' (first | exact Below.refl _ _ | with_reducible assumption | omega | with_reducible refine below_put_fut ?_ ?_ _ | with_reducible refine below_to_put ?_ | with_reducible refine Below.alloc ?_ ?_ _ | with_reducible refine Below.fut ?_ ?_ _ | with_reducible refine Below.drew ?_ | with_reducible refine Below.setCell ?_ ?_ _ | with_reducible refine Below.atPut ?_ ?_ _ | (simp [go_sem]; done) | (simp [go_sem]; omega))))⟩, by simp [intOf]; omega⟩
          | true =>
            cases dge with
            | false =>
              cases z with
              | false =>
                go_wp2_with (first | (at_builtin; refine wpList_append_ex (by rfl) _ _ _ (by rfl) _ _ (by rfl) (by rfl) (HO.out.app (x := x) (by repeat' (first | exact Below.refl _ _ | with_reducible assumption | omega | with_reducible refine below_put_fut ?_ ?_ _ | with_reducible refine below_to_put ?_ | with_reducible refine Below.alloc ?_ ?_ _ | with_reducible refine Below.fut ?_ ?_ _ | with_reducible refine Below.drew ?_ | with_reducible refine Below.setCell ?_ ?_ _ | with_reducible refine Below.atPut ?_ ?_ _ | (simp [go_sem]; done) | (simp [go_sem]; omega))) HLEN.out (by repeat' (first | rfl | assumption | (with_reducible refine (heap_drew_eq _ _).trans ?_) | (refine (Fut.heap _ _ ?_).trans ?_ ; focus (first | assumption | omega | (simp [go_sem]; done) | (simp [go_sem]; omega))) | (refine (heap_put_at _ _ _ ?_).trans ?_ ; focus (first | assumption | omega | (simp [go_sem]; done) | (simp [go_sem]; omega))) | (refine (heap_put_other _ _ _ _ ?_).trans ?_ ; focus (first | assumption | omega | (simp [go_sem]; done) | (simp [go_sem]; omega))) | (refine (heap_alloc_other _ _ _ ?_).trans ?_ ; focus (first | assumption | omega | (simp [go_sem]; done) | (simp [go_sem]; omega))) | (refine (heap_alloc_at _ _ _ ?_).trans ?_ ; focus (first | assumption | omega | (simp [go_sem]; done) | (simp [go_sem]; omega))) | (simp [go_sem]; done) | (simp [go_sem]; omega)))) ?_; rintro v4 w4 ho4; have HO4 := hid ho4; clear ho4))
                exact ⟨⟨q + 1, by omega, by go_num, hid (by rw [HSTEP.out, show roundP a b false x = true from by unfold roundP; rw [HAD.out, HIN.out, HD.out]; rfl]; simpa using HO4.out)⟩, by simp [intOf]; omega⟩
              | true =>
                go_wp2_with fail
                exact ⟨⟨q + 1, by omega, by go_num, hid (by rw [HSTEP.out, show roundP a b true x = false from by unfold roundP; rw [HAD.out, HIN.out]; try rw [HD.out]; try rfl]; simpa using HO.out.on (by repeat' (first | exact Below.refl _ _ | with_reducible assumption | omega | with_reducible refine below_put_fut ?_ ?_ _ | with_reducible refine below_to_put ?_ | with_reducible refine Below.alloc ?_ ?_ _ | with_reducible refine Below.fut ?_ ?_ _ | with_reducible refine Below.drew ?_ | with_reducible refine Below.setCell ?_ ?_ _ | with_reducible refine Below.atPut ?_ ?_ _ | (simp [go_sem]; done) | (simp [go_sem]; omega))))⟩, by simp [intOf]; omega⟩
            | true =>
              cases z with
              | false =>
                go_wp2_with fail
                exact ⟨⟨q + 1, by omega, by go_num, hid (by rw [HSTEP.out, show roundP a b false x = false from by unfold roundP; rw [HAD.out, HIN.out]; try rw [HD.out]; try rfl]; simpa using HO.out.on (by repeat' (first | exact Below.refl _ _ | with_reducible assumption | omega | with_reducible refine below_put_fut ?_ ?_ _ | with_reducible refine below_to_put ?_ | with_reducible refine Below.alloc ?_ ?_ _ | with_reducible refine Below.fut ?_ ?_ _ | with_reducible refine Below.drew ?_ | with_reducible refine Below.setCell ?_ ?_ _ | with_reducible refine Below.atPut ?_ ?_ _ | (simp [go_sem]; done) | (simp [go_sem]; omega))))⟩, by simp [intOf]; omega⟩
              | true =>
                go_wp2_with (first | (at_builtin; refine wpList_append_ex (by rfl) _ _ _ (by rfl) _ _ (by rfl) (by rfl) (HO.out.app (x := x) (by repeat' (first | exact Below.refl _ _ | with_reducible assumption | omega | with_reducible refine below_put_fut ?_ ?_ _ | with_reducible refine below_to_put ?_ | with_reducible refine Below.alloc ?_ ?_ _ | with_reducible refine Below.fut ?_ ?_ _ | with_reducible refine Below.drew ?_ | with_reducible refine Below.setCell ?_ ?_ _ | with_reducible refine Below.atPut ?_ ?_ _ | (simp [go_sem]; done) | (simp [go_sem]; omega))) HLEN.out (by repeat' (first | rfl | assumption | (with_reducible refine (heap_drew_eq _ _).trans ?_) | (refine (Fut.heap _ _ ?_).trans ?_ ; focus (first | assumption | omega | (simp [go_sem]; done) | (simp [go_sem]; omega))) | (refine (heap_put_at _ _ _ ?_).trans ?_ ; focus (first | assumption | omega | (simp [go_sem]; done) | (simp [go_sem]; omega))) | (refine (heap_put_other _ _ _ _ ?_).trans ?_ ; focus (first | assumption | omega | (simp [go_sem]; done) | (simp [go_sem]; omega))) | (refine (heap_alloc_other _ _ _ ?_).trans ?_ ; focus (first | assumption | omega | (simp [go_sem]; done) | (simp [go_sem]; omega))) | (refine (heap_alloc_at _ _ _ ?_).trans ?_ ; focus (first | assumption | omega | (simp [go_sem]; done) | (simp [go_sem]; omega))) | (simp [go_sem]; done) | (simp [go_sem]; omega)))) ?_; rintro v4 w4 ho4; have HO4 := hid ho4; clear ho4))
                exact ⟨⟨q + 1, by omega, by go_num, hid (by rw [HSTEP.out, show roundP a b true x = true from by unfold roundP; rw [HAD.out, HIN.out, HD.out]; rfl]; simpa using HO4.out)⟩, by simp [intOf]; omega⟩
        · obtain rfl : q = n := by omega
          have HO2 := hid (show Out W1 (roundsL a b xs (r + 1)) _ wr by rw [HZ.out]; have := HO.out; rwa [List.take_of_length_le (by rw [HL.out]; exact Nat.le_refl _)] at this)
          go_wp2_with fail
          exact ⟨⟨r + 1, by omega, by go_num, HO2⟩, by simp [intOf]; omega⟩
    · obtain rfl : r = 2 := by omega
      have HO2 := hid (show Out W1 (arcL a b xs) _ wr by rw [← HFIN.out]; exact HO.out)
      go_wp2_with fail
      go_ret
      have h := HO2.out
      exact ⟨_, rfl, h.form, h.row, HBW.out.trans (h.below.mono (by have := HWB.out; omega)), fun k hk => h.fresh k (by have := HWB.out; omega)⟩
end Go.Proofs.YthknenhcnpgkcaaGreat
