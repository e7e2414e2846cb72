/- Package cut: Chunks. -/
import Derived.Test.YthknenhcnpgkcaaCut3
namespace Go.Proofs.Ythknenhcnpgkcaa
open Go.RowKit Go.Shelf
set_option linter.unusedVariables false
set_option linter.unusedSimpArgs false
theorem sl_info : (Try.prog.info? 28).map (fun i => (i.zero, i.size, i.bytes)) = some (some (.slice none 0 0), 1, 24) := by kernel_rfl
theorem sl_app {W W2 : World} {v : Value} {n : Nat} {ys : List Value} (h : Row W 28 1 v n ys) (hb : Below W.heap.size W W2) (hn : n ≤ 1000) {S : Nat} {x : Value} (hx : x.oneCell' = true) (hS : W2.heap[S]? = some (.cells #[x] 28)) :
    ∃ v' W', (Builtin.append_ #[72, 72] 72 #[v, .slice (some ⟨S, 0, none⟩) 1 1]).run Try.prog W2 = .ok v' W' ∧ (∃ ao c, v' = .slice ao (n + 1) c) ∧ Row W' 28 1 v' (n + 1) (ys ++ [x]) ∧ Chg (fun k => blk v k ≠ 0) W W' ∧ ∀ k, k < W.heap.size → blk v' k ≤ blk v k := by
  obtain ⟨i0, hi0, hz0, hz1, hz2⟩ := info_parts sl_info
  obtain ⟨v', W', hrun, hrow, hch, hle⟩ := append_row (P := Try.prog) W2 72 72 28 i0 _ 1 24 Try.underlying72 hi0 hz0 hz1 hz2 rfl (by omega) v n _ (owns_below h hb) (.slice (some ⟨S, 0, none⟩) 1 1) 1 [x]
    ⟨rfl, by simpa using hx, .inr ⟨⟨S, 0, none⟩, 1, rfl, World.news_of_block hS⟩⟩ (by unfold maxLen; omega) (by omega)
  obtain ⟨ao, c, rfl⟩ := owns_slice hrow
  exact ⟨_, W', hrun, ⟨ao, c, rfl⟩, hrow, (Chg.of_below (S := fun k => blk v k ≠ 0) hb).trans hch (fun _ _ h => h), fun k hk => hle k (Nat.lt_of_lt_of_le hk hb.size)⟩
def sliceLen : Value → Nat
  | .slice _ n _ => n
  | _ => 0
/-- The i-th chunk of a list. -/
def chunk (its : List It) (i : Nat) : List It := (its.drop (4 * i)).take 4
/-- So many chunks have been cut. -/
def ChI (W : World) (its : List It) (j : Nat) (out : Value) (wr : World) : Prop :=
  ∃ vs, Row wr 28 1 out j vs ∧ vs.length = j ∧ (∀ k, blk out k ≠ 0 → W.heap.size ≤ k) ∧ Below W.heap.size W wr ∧ ∀ i x, vs[i]? = some x → ∃ bo bc, x = .slice bo (chunk its i).length bc ∧ Row wr 34 2 x (chunk its i).length (flat (chunk its i)) ∧ ∀ k, blk x k ≠ 0 → blk out k = 0 ∧ W.heap.size ≤ k
theorem ChI.next {W wr W3 W4 : World} {its : List It} {j : Nat} {out v' x : Value} {bo : Option Addr} {bc : Nat} {vs : List Value} (h1 : Row wr 28 1 out j vs) (h2 : vs.length = j) (h3 : ∀ k, blk out k ≠ 0 → W.heap.size ≤ k) (h4 : Below W.heap.size W wr) (h5 : ∀ i x, vs[i]? = some x → ∃ bo bc, x = .slice bo (chunk its i).length bc ∧ Row wr 34 2 x (chunk its i).length (flat (chunk its i)) ∧ ∀ k, blk x k ≠ 0 → blk out k = 0 ∧ W.heap.size ≤ k) (hx : x = .slice bo (chunk its j).length bc) (hb3 : Below wr.heap.size wr W3) (hr3 : Row W3 34 2 x (chunk its j).length (flat (chunk its j))) (hf3 : ∀ k, k < wr.heap.size → blk x k = 0)
    (hr4 : Row W4 28 1 v' (j + 1) (vs ++ [x])) (hc4 : Chg (fun k => blk out k ≠ 0) W3 W4) (hle : ∀ k, k < W3.heap.size → blk v' k ≤ blk out k) : ChI W its (j + 1) v' W4 := by
  have hout : ∀ k, wr.heap.size ≤ k → blk out k = 0 := fun k hk => by
    rcases Nat.eq_zero_or_pos (blk out k) with e | e
    · exact e
    · have := h1.lt (k := k) (by omega); omega
  have hb4 : Below W.heap.size W W4 := h4.trans ((hb3.mono h4.size).trans (hc4.below (Nat.le_trans h4.size hb3.size) fun k hk => h3 k hk))
  refine ⟨vs ++ [x], hr4, by simp [h2], fun k hk => ?_, hb4, fun i y hy => ?_⟩
  · rcases Nat.lt_or_ge k W3.heap.size with e | e
    · have := hle k e; exact h3 k (by omega)
    · have := h4.size; have := hb3.size; omega
  · rcases Nat.lt_or_ge i vs.length with c | c
    · rw [List.getElem?_append_left c] at hy
      obtain ⟨bo', bc', q1, q2, q3⟩ := h5 i y hy
      refine ⟨bo', bc', q1, q2.keep fun k hk => ?_, fun k hk => ⟨?_, (q3 k hk).2⟩⟩
      · have hl := q2.lt hk
        exact (hc4.block k (Nat.lt_of_lt_of_le hl hb3.size) (by have := (q3 k hk).1; omega)).trans (hb3.block k hl)
      · have hl := q2.lt hk
        have := hle k (Nat.lt_of_lt_of_le hl hb3.size); have := (q3 k hk).1; omega
    · rw [List.getElem?_append_right c] at hy
      have hi : i = vs.length := by
        rcases Nat.eq_zero_or_pos (i - vs.length) with e | e
        · omega
        · rw [List.getElem?_eq_none (by simp; omega)] at hy; cases hy
      have hij : i = j := by omega
      subst hij
      rw [hi, Nat.sub_self] at hy
      obtain rfl : x = y := by simpa using hy
      refine ⟨bo, bc, hx, hr3.keep fun k hk => hc4.block k (hr3.lt hk) ?_, fun k hk => ?_⟩
      · have : wr.heap.size ≤ k := Nat.le_of_not_lt fun e => hk (hf3 k e)
        have := hout k this; omega
      · have hge : wr.heap.size ≤ k := Nat.le_of_not_lt fun e => hk (hf3 k e)
        have := hout k hge; have := hle k (hr3.lt hk); have := h4.size
        exact ⟨by omega, by omega⟩
set_option maxRecDepth 100000 in
set_option maxHeartbeats 4000000 in
theorem chunks_is (W : World) (sl : Value) (its : List It) (n : Nat) (hl : its.length = n) (hn : n ≤ 400) (hs : Src W 2 sl n (flat its)) (hcap : ∀ ao c, sl = .slice ao n c → n ≤ c) :
    Calls Try.prog 62 #[sl] W fun e W' => ∃ oo oc, e = .returned (.slice oo ((n + 3) / 4) oc) ∧ ChI W its ((n + 3) / 4) (.slice oo ((n + 3) / 4) oc) W' := by
  obtain ⟨ao, cap, rfl⟩ := hs.slice_of
  have hc := hcap ao cap rfl
  have HS := hid hs
  have HL := hid hl
  clear hs hl hcap
  go_enter Try.func62, Try.ntmps62
  go_wp2_with fail
  go_loopw [0, 3, 4] (fun l o q wr => ∃ (j m : Nat) (lo : Option Addr) (lc : Nat) (oo : Option Addr) (oc : Nat), m = n - 4 * j ∧ j ≤ (n + 3) / 4 ∧ l = .slice lo m lc ∧ m ≤ lc ∧ o = .slice oo j oc ∧ Hid (Src W 2 (.slice lo m lc) m (flat (its.drop (4 * j)))) ∧ Hid (ChI W its j (.slice oo j oc) wr)) (fun l _ _ _ => sliceLen l)
  case atStart => exact ⟨0, n, ao, cap, none, 0, by omega, Nat.zero_le _, rfl, hc, rfl, hid (by simpa using HS.out), hid ⟨[], World.ownsRow_nil _ _ _ _, rfl, fun k hk => by simp at hk, Below.refl _ _, fun i x hx => by simp at hx⟩⟩
  case round =>
    obtain ⟨j, m, lo, lc, oo, oc, hm, hj, rfl, hlc, rfl, HSR, HCI⟩ := hrel
    by_cases hlt : 0 < m
    · obtain ⟨nn, hnn⟩ : ∃ nn, nn = min m 4 := ⟨_, rfl⟩
      have hmin : min (m : Int) 4 = (nn : Int) := by omega
      have hm0 : (0 : Int) < (m : Int) := by omega
      have hnm : nn ≤ m := by omega
      have hdl : (its.drop (4 * j)).length = m := by rw [List.length_drop, HL.out]; omega
      have hch : (its.drop (4 * j)).take nn = chunk its j := by
        unfold chunk
        rcases Nat.lt_or_ge m 4 with c | c
        · rw [List.take_of_length_le (by omega), List.take_of_length_le (by omega)]
        · rw [show nn = 4 by omega]
      have hcl : (chunk its j).length = nn := by rw [← hch, List.length_take, hdl]; omega
      have s1 := fun W => slice_to lo m lc nn (by omega) W
      obtain ⟨A1, hA1⟩ : ∃ A1, A1 = (if lc = nn then lo else lo.map (·.add (nn * 2))) := ⟨_, rfl⟩
      have s2 := fun W => slice_from lo m lc nn hnm hlc W
      rw [← hA1] at s2
      have HSP := hid (show Src W 2 (.slice lo nn lc) nn (flat (chunk its j)) from by rw [← hch]; exact slice_pre HSR.out hnm hdl)
      have hsrc := slice_src (i := nn) (j := m - nn) hdl HSR.out hlc (by omega)
      rw [← hA1, List.drop_drop, List.take_of_length_le (by rw [List.length_drop, HL.out]; omega)] at hsrc
      have HSN := hid (show Src W 2 (.slice A1 (m - nn) (lc - nn)) (m - nn) (flat (its.drop (4 * j + nn))) from by first | exact hsrc | (rw [Nat.add_comm]; exact hsrc))
      obtain ⟨vs, i1, i2, i3, i4, i5⟩ := HCI.out
      have HI1 := hid i1
      have HIS := hid (And.intro i2 (And.intro i3 (And.intro i4 i5)))
      have HCL := hid hcl
      have HMM := hid hm
      have HJ := hid hj
      have HNN := hid hnn
      clear i1 i2 i3 i4 i5 hsrc hA1 hch hcl hdl hm hj hnn
      go_wp2_with fail
      refine (clone_item _ _ nn (flat (chunk its j)) (HSP.out.heap HIS.out.2.2.1) (by omega)).mono ?_
      rintro _ W3 ⟨cv, rfl, hr3, hb3, hf3⟩
      obtain ⟨ca, cc, rfl⟩ := owns_slice hr3
      have HR3 := hid hr3
      have HB3 := hid hb3
      have HF3 := hid hf3
      have HO3 := hid (owns_below HI1.out hb3)
      clear hr3 hb3 hf3
      go_wp2_with (first | (at_builtin; refine wpList_append_ex (by rfl) _ _ _ (by rfl) _ _ (by rfl) (by rfl) (sl_app (x := .slice ca nn cc) HO3.out (by repeat' (first | exact Below.refl _ _ | with_reducible assumption | omega | with_reducible refine below_put_fut ?_ ?_ _ | with_reducible refine below_to_put ?_ | with_reducible refine Below.alloc ?_ ?_ _ | with_reducible refine Below.fut ?_ ?_ _ | with_reducible refine Below.drew ?_ | with_reducible refine Below.setCell ?_ ?_ _ | with_reducible refine Below.atPut ?_ ?_ _ | (simp [go_sem]; done) | (simp [go_sem]; omega))) (by have := HJ.out; omega) rfl (by repeat' (first | rfl | assumption | (with_reducible refine (heap_drew_eq _ _).trans ?_) | (refine (Fut.heap _ _ ?_).trans ?_ ; focus (first | assumption | omega | (simp [go_sem]; done) | (simp [go_sem]; omega))) | (refine (heap_put_at _ _ _ ?_).trans ?_ ; focus (first | assumption | omega | (simp [go_sem]; done) | (simp [go_sem]; omega))) | (refine (heap_put_other _ _ _ _ ?_).trans ?_ ; focus (first | assumption | omega | (simp [go_sem]; done) | (simp [go_sem]; omega))) | (refine (heap_alloc_other _ _ _ ?_).trans ?_ ; focus (first | assumption | omega | (simp [go_sem]; done) | (simp [go_sem]; omega))) | (refine (heap_alloc_at _ _ _ ?_).trans ?_ ; focus (first | assumption | omega | (simp [go_sem]; done) | (simp [go_sem]; omega))) | (simp [go_sem]; done) | (simp [go_sem]; omega)))) ?_; rintro v4 W4 ⟨⟨a4, c4, rfl⟩, hr4, hc4, hle4⟩; have HR4 := hid hr4; have HC4 := hid hc4; have HLE4 := hid hle4; clear hr4 hc4 hle4))
      go_roundw
      case rel =>
        have hmm := HMM.out
        have hnn := HNN.out
        have hj4 : 4 * j < n := by omega
        refine ⟨j + 1, m - nn, A1, lc - nn, a4, c4, by omega, by omega, rfl, by omega, rfl, ?_, ?_⟩
        · refine hid ?_
          have h := HSN.out
          rcases Nat.lt_or_ge nn 4 with c | c
          · rw [List.drop_of_length_le (by rw [HL.out]; omega)] at h ⊢
            exact h
          · rwa [show 4 * (j + 1) = 4 * j + nn by omega]
        · refine hid (ChI.next HI1.out HIS.out.1 HIS.out.2.1 HIS.out.2.2.1 HIS.out.2.2.2 (x := .slice ca nn cc) (bo := ca) (bc := cc) (by rw [HCL.out]) HB3.out (by rw [HCL.out]; exact HR3.out) HF3.out HR4.out HC4.out HLE4.out)
      case measure => have := HNN.out; simp [sliceLen]; omega
    · have hm0 : m = 0 := by omega
      subst hm0
      have hjn : j = (n + 3) / 4 := by omega
      subst hjn
      clear hm hj
      go_wp2_with fail
      go_ret
      exact ⟨oo, oc, rfl, HCI.out⟩
end Go.Proofs.Ythknenhcnpgkcaa
