/- The document's own shelf: Range. -/
import Derived.Test.YthknenhcnpgkcaaGreatMt
import Derived.Test.YthknenhcnpgkcaaGreatMv
namespace Go.Proofs.YthknenhcnpgkcaaGreat
open Go.RowKit
set_option linter.unusedVariables false
set_option linter.unusedSimpArgs false
set_option maxRecDepth 100000 in
set_option maxHeartbeats 4000000 in
theorem refRange_is (W : World) (g : Nat) (most : Int) (sv : Value) (xs : List It) (n : Nat) (hl : xs.length = n) (hn : n ≤ 400) (hg : W.heap[g]? = some (refObj most sv)) (hs : Src W 2 sv n (flat xs)) (u v : ByteArray) :
    Calls Tryz.prog 8 #[.pointer (some ⟨g, 0, none⟩), .string u, .string v] W fun e W' => ∃ v', e = .returned v' ∧ Out W (rangeL u v xs) v' W' := by
  obtain ⟨ao, cap, rfl⟩ := hs.slice_of
  have hc := fun i => cell_of_row W g i _ _ (0, 0) hg
  have hgl := lt_of_heap hg
  have HS := hid hs
  have HL := hid hl
  have HG := hid hg
  clear hg hs hl
  go_enter Tryz.func8, Tryz.ntmps8
  go_wp2_with fail
  go_loopw [7, 8] (fun o i wr => ∃ q : Nat, q ≤ n ∧ i = .int .i64 q ∧ Hid (Out W ((xs.take q).filter (inR u v)) o wr)) (fun _ i _ => n - (intOf i).toNat)
  case atStart => exact ⟨0, Nat.zero_le _, rfl, hid (Out.nil W (Below.refl _ _))⟩
  case round =>
    obtain ⟨q, hq, rfl, HO⟩ := hrel
    have hbw := HO.out.below
    have hcg := fun i => cell_of_row wr g i _ _ (0, 0) ((hbw.block g (lt_of_heap HG.out)).trans HG.out)
    have hglr : g < wr.heap.size := Nat.lt_of_lt_of_le (lt_of_heap HG.out) hbw.size
    by_cases hlt : q < n
    · obtain ⟨x, hx⟩ : ∃ x, xs[q]? = some x := ⟨xs[q]'(by rw [HL.out]; exact hlt), List.getElem?_eq_getElem _⟩
      obtain ⟨b1, o1, rfl, p1, p2, p3⟩ := (show Src wr 2 (.slice ao xs.length cap) xs.length (flat xs) by rw [HL.out]; exact HS.out.heap hbw).at_ q x hx
      have l1 : b1 < wr.heap.size := World.block_lt_of_cell? _ _ p1
      have HSTEP := hid (filter_step (inR u v) hx)
      have HLEN := hid (show ((xs.take q).filter (inR u v)).length ≤ 1000 from by
        have h1 := List.length_filter_le (inR u v) (xs.take q)
        rw [List.length_take] at h1
        omega)
      clear hx hbw hc hgl
      obtain ⟨s, t⟩ := x
      simp only at p1 p2 p3
      cases hlu : lt s u with
      | true =>
        have e1 : Op.bytesLess s.toList u.toList = true := by rw [ByteArray.toList_eq, ByteArray.toList_eq]; exact hlu
        have HIN := hid (show inR u v (s, t) = false from by unfold inR; rw [hlu]; rfl)
        clear hlu
        go_wp2_with fail
        exact ⟨⟨q + 1, by omega, by go_num, hid (by rw [HSTEP.out, HIN.out]; simpa using HO.out)⟩, by simp [intOf]; omega⟩
      | false =>
        have e1 : Op.bytesLess s.toList u.toList = false := by rw [ByteArray.toList_eq, ByteArray.toList_eq]; exact hlu
        by_cases hv : v.size = 0
        · have e2 := empty_yes hv
          have HIN := hid (show inR u v (s, t) = true from by unfold inR; rw [hlu, decide_eq_true hv]; rfl)
          clear hlu hv
          go_wp2_with (first | (at_builtin; refine wpList_append_ex (by rfl) _ _ _ (by rfl) _ _ (by rfl) (by rfl) (HO.out.app (x := (s, t)) (by repeat' (first | exact Below.refl _ _ | with_reducible assumption | omega | with_reducible refine below_put_fut ?_ ?_ _ | with_reducible refine below_to_put ?_ | with_reducible refine Below.alloc ?_ ?_ _ | with_reducible refine Below.fut ?_ ?_ _ | with_reducible refine Below.drew ?_ | with_reducible refine Below.setCell ?_ ?_ _ | with_reducible refine Below.atPut ?_ ?_ _ | (simp [go_sem]; done) | (simp [go_sem]; omega))) HLEN.out (by repeat' (first | rfl | assumption | (with_reducible refine (heap_drew_eq _ _).trans ?_) | (refine (Fut.heap _ _ ?_).trans ?_ ; focus (first | assumption | omega | (simp [go_sem]; done) | (simp [go_sem]; omega))) | (refine (heap_put_at _ _ _ ?_).trans ?_ ; focus (first | assumption | omega | (simp [go_sem]; done) | (simp [go_sem]; omega))) | (refine (heap_put_other _ _ _ _ ?_).trans ?_ ; focus (first | assumption | omega | (simp [go_sem]; done) | (simp [go_sem]; omega))) | (refine (heap_alloc_other _ _ _ ?_).trans ?_ ; focus (first | assumption | omega | (simp [go_sem]; done) | (simp [go_sem]; omega))) | (refine (heap_alloc_at _ _ _ ?_).trans ?_ ; focus (first | assumption | omega | (simp [go_sem]; done) | (simp [go_sem]; omega))) | (simp [go_sem]; done) | (simp [go_sem]; omega)))) ?_; rintro v4 w4 ho4; have HO4 := hid ho4; clear ho4))
          exact ⟨⟨q + 1, by omega, by go_num, hid (by rw [HSTEP.out, HIN.out]; simpa using HO4.out)⟩, by simp [intOf]; omega⟩
        · have e2 := empty_no hv
          cases hlv : lt s v with
          | true =>
            have e3 : Op.bytesLess s.toList v.toList = true := by rw [ByteArray.toList_eq, ByteArray.toList_eq]; exact hlv
            have HIN := hid (show inR u v (s, t) = true from by unfold inR; rw [hlu, decide_eq_false hv, hlv]; rfl)
            clear hlu hv hlv
            go_wp2_with (first | (at_builtin; refine wpList_append_ex (by rfl) _ _ _ (by rfl) _ _ (by rfl) (by rfl) (HO.out.app (x := (s, t)) (by repeat' (first | exact Below.refl _ _ | with_reducible assumption | omega | with_reducible refine below_put_fut ?_ ?_ _ | with_reducible refine below_to_put ?_ | with_reducible refine Below.alloc ?_ ?_ _ | with_reducible refine Below.fut ?_ ?_ _ | with_reducible refine Below.drew ?_ | with_reducible refine Below.setCell ?_ ?_ _ | with_reducible refine Below.atPut ?_ ?_ _ | (simp [go_sem]; done) | (simp [go_sem]; omega))) HLEN.out (by repeat' (first | rfl | assumption | (with_reducible refine (heap_drew_eq _ _).trans ?_) | (refine (Fut.heap _ _ ?_).trans ?_ ; focus (first | assumption | omega | (simp [go_sem]; done) | (simp [go_sem]; omega))) | (refine (heap_put_at _ _ _ ?_).trans ?_ ; focus (first | assumption | omega | (simp [go_sem]; done) | (simp [go_sem]; omega))) | (refine (heap_put_other _ _ _ _ ?_).trans ?_ ; focus (first | assumption | omega | (simp [go_sem]; done) | (simp [go_sem]; omega))) | (refine (heap_alloc_other _ _ _ ?_).trans ?_ ; focus (first | assumption | omega | (simp [go_sem]; done) | (simp [go_sem]; omega))) | (refine (heap_alloc_at _ _ _ ?_).trans ?_ ; focus (first | assumption | omega | (simp [go_sem]; done) | (simp [go_sem]; omega))) | (simp [go_sem]; done) | (simp [go_sem]; omega)))) ?_; rintro v4 w4 ho4; have HO4 := hid ho4; clear ho4))
            exact ⟨⟨q + 1, by omega, by go_num, hid (by rw [HSTEP.out, HIN.out]; simpa using HO4.out)⟩, by simp [intOf]; omega⟩
          | false =>
            have e3 : Op.bytesLess s.toList v.toList = false := by rw [ByteArray.toList_eq, ByteArray.toList_eq]; exact hlv
            have HIN := hid (show inR u v (s, t) = false from by unfold inR; rw [hlu, decide_eq_false hv, hlv]; rfl)
            clear hlu hv hlv
            go_wp2_with fail
            exact ⟨⟨q + 1, by omega, by go_num, hid (by rw [HSTEP.out, HIN.out]; simpa using HO.out)⟩, by simp [intOf]; omega⟩
    · obtain rfl : q = n := by omega
      have HO2 := hid (show Out W (rangeL u v xs) _ wr by have := HO.out; rwa [List.take_of_length_le (by rw [HL.out]; exact Nat.le_refl _), ← rangeL_inR] at this)
      clear HO hc hgl hbw
      go_wp2_with fail
      go_ret
      exact ⟨_, rfl, HO2.out⟩
end Go.Proofs.YthknenhcnpgkcaaGreat
