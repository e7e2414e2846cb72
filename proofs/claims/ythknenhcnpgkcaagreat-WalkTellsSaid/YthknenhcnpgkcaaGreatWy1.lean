/- rosarylaw5.Ways: its function. -/
import Derived.Test.YthknenhcnpgkcaaGreatCl3
import Derived.Test.YthknenhcnpgkcaaGreatMw
namespace Go.Proofs.YthknenhcnpgkcaaGreat
open Go.RowKit Go.Shelf
set_option linter.unusedVariables false
set_option linter.unusedSimpArgs false
attribute [local go_sem] Oper.semAt_some
theorem ItemsIn.putOther {A k : Nat} {xs : List It} {W : World} {v : Value} (h : ItemsIn A xs W v) {cs : Array Value} {t : TypeId} {fr : Nat × Nat} (hk : W.heap[k]? = some (.cells cs t fr)) (ht : t ≠ 59) (hA : k ≠ A) (o : Obj) : ItemsIn A xs (put W k o) v := by
  refine ⟨(heap_put_other _ _ _ _ (fun e => hA e.symm)).trans h.heap, owns_put h.row (fun e => ?_) o⟩
  rcases h.row.2 with ⟨rfl, _⟩ | ⟨g, cap, cur, rfl, _, hh, _⟩
  · simp [Value.ownBlock] at e
  · have : g = k := by simpa [Value.ownBlock] using e
    subst this
    rw [hh] at hk
    cases hk
    exact ht rfl
theorem ItemsIn.below {A : Nat} {xs : List It} {W W' : World} {v : Value} (h : ItemsIn A xs W v) (hb : Below W.heap.size W W') : ItemsIn A xs W' v :=
  ⟨(hb.block _ (lt_of_heap h.heap)).trans h.heap, owns_below h.row hb⟩
/-- What Ways has told so far: the blocks of most, out, over, done. -/
structure WayS (W0 : World) (M : Nat) (most : Nat) (fin : Bool) (pre : List It) (X : World) : Prop where
  base : Below W0.heap.size W0 X
  ge : W0.heap.size ≤ M
  mo : X.heap[M]? = some (.cells #[.int .i64 most] 3)
  out : ∃ v, ItemsIn (M + 1) pre X v
  over : X.heap[M + 2]? = some (.cells #[.int .i64 0] 3)
  done : X.heap[M + 3]? = some (.cells #[.bool fin] 4)
theorem WayS.below {W0 : World} {M most : Nat} {fin : Bool} {pre : List It} {X Y : World} (h : WayS W0 M most fin pre X) (hb : Below X.heap.size X Y) : WayS W0 M most fin pre Y :=
  ⟨h.base.trans (hb.mono h.base.size), h.ge, (hb.block _ (lt_of_heap h.mo)).trans h.mo, by obtain ⟨v, hv⟩ := h.out; exact ⟨v, hv.below hb⟩, (hb.block _ (lt_of_heap h.over)).trans h.over, (hb.block _ (lt_of_heap h.done)).trans h.done⟩
theorem WayS.from {W0 : World} {M most : Nat} {fin : Bool} {B : Nat} (hB : W0.heap.size ≤ B) : OwnFrom B (fun (pre : List It) X => WayS W0 M most fin pre X) := fun s X Y row h hg hr =>
  ⟨ownFrom_below (β := Unit) (Nat.le_refl _) hB () X Y row h.base hg hr, h.ge, (grownBy_keeps_cells hg (fun r e => (hr r e).2) h.mo rfl).trans h.mo, by
    have := ItemsIn.from (id : It → It) (M + 1) B s X Y row (by simpa using h.out) hg hr
    simpa using this, (grownBy_keeps_cells hg (fun r e => (hr r e).2) h.over rfl).trans h.over, (grownBy_keeps_cells hg (fun r e => (hr r e).2) h.done rfl).trans h.done⟩
/-- What the function keeps. -/
abbrev KpW (M : Nat) : World → World → Prop := KpOS (M + 1) (fun k => k = M + 3)
theorem way_blocks {X w4 : World} {M most : Nat} {b : Bool} {o : Obj} (hM : X.heap[M]? = some (.cells #[.int .i64 most] 3)) (hO : X.heap[M + 2]? = some (.cells #[.int .i64 0] 3)) (hD : X.heap[M + 3]? = some (.cells #[.bool b] 4)) (hkp : KpO (M + 1) X (put w4 (M + 1) o)) (hbl : Below (M + 1) X (put w4 (M + 1) o)) :
    w4.heap[M]? = some (.cells #[.int .i64 most] 3) ∧ w4.heap[M + 2]? = some (.cells #[.int .i64 0] 3) ∧ w4.heap[M + 3]? = some (.cells #[.bool b] 4) := by
  refine ⟨?_, ?_, ?_⟩
  · rw [← heap_put_other w4 (M + 1) M o (by omega), hbl.block M (by omega), hM]
  · rw [← heap_put_other w4 (M + 1) (M + 2) o (by omega), hkp.typ _ _ _ _ hO (by decide) (by omega) (fun h => h), hO]
  · rw [← heap_put_other w4 (M + 1) (M + 3) o (by omega), hkp.typ _ _ _ _ hD (by decide) (by omega) (fun h => h), hD]
theorem put_comm (w : World) (a b : Nat) (o p : Obj) (h : a ≠ b) : put (put w a o) b p = put (put w b p) a o := by
  unfold put
  congr 1
  exact Array.setIfInBounds_comm _ _ h
theorem way_end {W0 X w4 : World} {M most n : Nat} {b : Bool} {ao : Option Addr} {cc : Nat} {L : List It} (hb : Below W0.heap.size W0 X) (hge : W0.heap.size ≤ M) (hkp : KpO (M + 1) X (put w4 (M + 1) (.cells #[.slice ao n cc] 22))) (hbl : Below (M + 1) X (put w4 (M + 1) (.cells #[.slice ao n cc] 22)))
    (hkf : ∀ B, KeepsFrom B X (put w4 (M + 1) (.cells #[.slice ao n cc] 22))) (hin : ItemsIn (M + 1) L (put w4 (M + 1) (.cells #[.slice ao n cc] 22)) (.slice ao n cc))
    (hM : w4.heap[M]? = some (.cells #[.int .i64 most] 3)) (hO : w4.heap[M + 2]? = some (.cells #[.int .i64 0] 3)) (hD : w4.heap[M + 3]? = some (.cells #[.bool false] 4)) :
    (∀ B, M + 3 < B → KeepsFrom B X (put (w4.setCell ⟨M + 3, 0, none⟩ (.bool b)) (M + 1) (.cells #[.slice ao n cc] 22))) ∧ WayS W0 M most b L (put (w4.setCell ⟨M + 3, 0, none⟩ (.bool b)) (M + 1) (.cells #[.slice ao n cc] 22)) ∧ KpW M X (put (w4.setCell ⟨M + 3, 0, none⟩ (.bool b)) (M + 1) (.cells #[.slice ao n cc] 22)) := by
  have hl := lt_of_heap hD
  have e : put (w4.setCell ⟨M + 3, 0, none⟩ (.bool b)) (M + 1) (.cells #[.slice ao n cc] 22) = put (put w4 (M + 1) (.cells #[.slice ao n cc] 22)) (M + 3) (.cells #[.bool b] 4) := by
    rw [setCell_row hD, put_comm _ _ _ _ _ (by omega)]
    rfl
  rw [e]
  have hz : M + 3 < (put w4 (M + 1) (.cells #[.slice ao n cc] 22)).heap.size := by rw [size_put]; exact hl
  have h3 : (put w4 (M + 1) (.cells #[.slice ao n cc] 22)).heap[M + 3]? = some (.cells #[.bool false] 4) := (heap_put_other _ _ _ _ (by omega)).trans hD
  have hc : Chg (fun k => k = M + 3) (put w4 (M + 1) (.cells #[.slice ao n cc] 22)) (put (put w4 (M + 1) (.cells #[.slice ao n cc] 22)) (M + 3) (.cells #[.bool b] 4)) := Chg.put (S := fun k => k = M + 3) (g := M + 3) (Chg.refl _ _) (fun _ => rfl) _
  refine ⟨fun B hB => (hkf B).trans (KeepsFrom.chg hc fun k hk => by omega), ⟨Below.atPut (hb.trans (hbl.mono (by omega))) (by omega) _, hge, ?_, ⟨_, hin.putOther h3 (by decide) (by omega) _⟩, ?_, heap_put_at _ _ _ hz⟩, (KpOS.mono hkp (fun k hk => hk.elim)).trans (KpOS.chg hc (by omega) (by omega))⟩
  · rw [heap_put_other _ _ _ _ (by omega), heap_put_other _ _ _ _ (by omega)]; exact hM
  · rw [heap_put_other _ _ _ _ (by omega), heap_put_other _ _ _ _ (by omega)]; exact hO
set_option maxRecDepth 100000 in
set_option maxHeartbeats 4000000 in
theorem ways1_is {W0 : World} {M most : Nat} {pre : List It} {X : World} (h : WayS W0 M most false pre X) (hl : pre.length < most) (hn : pre.length ≤ 900) (x : It) :
    Calls Tryz.prog 33 #[.string x.1, .string x.2, .pointer (some ⟨M + 3, 0, none⟩), .pointer (some ⟨M + 2, 0, none⟩), .pointer (some ⟨M + 1, 0, none⟩), .pointer (some ⟨M, 0, none⟩)] X fun e X' =>
      (∀ B, M + 3 < B → KeepsFrom B X X') ∧ ((e = .returned (.bool true) ∧ (WayS W0 M most false (pre ++ [x]) X' ∧ (pre ++ [x]).length < most) ∧ KpW M X X') ∨ (e = .returned (.bool false) ∧ WayS W0 M most true (pre ++ [x]) X' ∧ (pre ++ [x]).length = most)) := by
  obtain ⟨v, hin⟩ := h.out
  have hb := h.base
  have hge := h.ge
  have hM := h.mo
  have hO := h.over
  have hD := h.done
  have eM := fun i => cell_of_row X M i _ _ (0, 0) hM
  have eO := fun i => cell_of_row X (M + 1) i _ _ (0, 0) hin.heap
  have eD := fun i => cell_of_row X (M + 3) i _ _ (0, 0) hD
  have lM := lt_of_heap hM
  have lO := lt_of_heap hin.heap
  have lD := lt_of_heap hD
  have HI := hid hin
  have HB := hid hb
  have HM := hid hM
  have HO := hid hO
  have HD := hid hD
  have HN := hid hn
  have HL := hid hl
  obtain ⟨ao, cc, rfl⟩ := owns_slice hin.row
  obtain ⟨b, he⟩ : ∃ b, decide (most ≤ (pre ++ [x]).length) = b := ⟨_, rfl⟩
  have hb2 : (b = true → (pre ++ [x]).length = most) ∧ (b = false → (pre ++ [x]).length < most) := by
    have h1 : (pre ++ [x]).length = pre.length + 1 := by simp
    rw [← he]
    constructor
    · intro h2; have := of_decide_eq_true h2; omega
    · intro h2; have := of_decide_eq_false h2; omega
  have HB2 := hid hb2
  have he2 : decide ((most : Int) ≤ ((pre ++ [x]).length : Nat)) = b := by rw [← he]; exact decide_eq_decide.2 (by omega)
  clear h hin hb hM hO hD hn hl hb2
  obtain ⟨n0, hn0⟩ : ∃ n0, pre.length = n0 := ⟨_, rfl⟩
  rw [hn0] at eO
  obtain ⟨n4, hn4⟩ : ∃ n4, (pre ++ [x]).length = n4 := ⟨_, rfl⟩
  rw [hn4] at he he2
  have HN4 := hid hn4
  have HN0 := hid hn0
  clear hn0 hn4
  go_enter Tryz.func33, Tryz.ntmps33
  go_wp2_with (first | (at_builtin; refine wpList_append_ex (by rfl) _ _ _ (by rfl) _ _ (by rfl) (by rfl) (by have hx := HI.out.app (W2 := (X.alloc (.cells #[.string x.1, .string x.2] 59))) (by repeat' (first | exact Below.refl _ _ | with_reducible assumption | omega | with_reducible refine below_put_fut ?_ ?_ _ | with_reducible refine below_to_put ?_ | with_reducible refine Below.alloc ?_ ?_ _ | with_reducible refine Below.fut ?_ ?_ _ | with_reducible refine Below.drew ?_ | with_reducible refine Below.setCell ?_ ?_ _ | with_reducible refine Below.atPut ?_ ?_ _ | (simp [go_sem]; done) | (simp [go_sem]; omega))) HN.out x (S := X.heap.size) (heap_alloc_at _ _ _ rfl); rw [HN0.out] at hx; exact hx) ?_; rintro v4 w4 ⟨hAb, hAl, hin4, hkp, hbl, hkf⟩; obtain ⟨ao4, cc4, rfl⟩ := owns_slice hin4.row; rw [HN4.out] at hin4 hkp hbl hkf ⊢; have HIN := hid hin4; have HKP := hid hkp; have HBL := hid hbl; have HKF := hid hkf; have j1 := cell_of_row w4 (M + 1) 0 _ _ (0, 0) hAb; obtain ⟨hM4, hO4, hD4⟩ := way_blocks HM.out HO.out HD.out hkp hbl; have jM := cell_of_row w4 M 0 _ _ (0, 0) hM4; have jD := cell_of_row w4 (M + 3) 0 _ _ (0, 0) hD4; have lD4 := lt_of_heap hD4; have lM4 := lt_of_heap hM4; have fD := frozen_of hD4 0; have HM4 := hid hM4; have HD4 := hid hD4; have HO4 := hid hO4; clear hM4 hD4 hO4; have HAL := hid hAl; clear hin4 hkp hbl hkf; rw [← put_self hAb]; clear hAb))
  cases b with
  | true =>
    go_ret
    obtain ⟨k1, k2, k3⟩ := way_end (b := true) HB.out hge HKP.out HBL.out HKF.out HIN.out HM4.out HO4.out HD4.out
    exact ⟨k1, .inr ⟨rfl, k2, HB2.out.1 rfl⟩⟩
  | false =>
    go_ret
    obtain ⟨k1, k2, k3⟩ := way_end (b := false) HB.out hge HKP.out HBL.out HKF.out HIN.out HM4.out HO4.out HD4.out
    exact ⟨k1, .inl ⟨rfl, ⟨k2, HB2.out.2 rfl⟩, k3⟩⟩
end Go.Proofs.YthknenhcnpgkcaaGreat
