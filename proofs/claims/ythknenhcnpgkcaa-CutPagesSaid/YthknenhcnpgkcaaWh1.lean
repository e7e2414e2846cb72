/- Package walk: All with a function of one's own that keeps the row that is gone through; a shelf that changes while other blocks stay. -/
import Derived.Test.YthknenhcnpgkcaaMv
import Derived.Test.YthknenhcnpgkcaaMf
import Derived.Test.YthknenhcnpgkcaaMr
namespace Go.Proofs.Ythknenhcnpgkcaa
open Go.RowKit Go.Shelf
attribute [local go_sem] Oper.semAt_some
set_option linter.unusedVariables false
set_option linter.unusedSimpArgs false
set_option maxRecDepth 100000 in
set_option maxHeartbeats 4000000 in
theorem walkAll1_keeps {xs : List It} {g : Option Addr} {w : World} (h : Gives g xs w) (hn : xs.length ≤ 900) (B : Nat) (hB : w.cell? ⟨B, 0, none⟩ = some (.pointer g))
    (cf : Nat) (lb : Array Value) (heg : ∀ args w, (callFunc cf args).run Try.prog w = .ok (.enter cf args) w) (J : (Nat → Prop) → Nat → World → Prop) (hJb : ∀ S i X Y, J S i X → Below X.heap.size X Y → J S i Y)
    (W : World) (hW : Below w.heap.size w W)
    (hY : ∀ S i x X, xs[i]? = some x → J S i X → Calls Try.prog cf (#[.string x.1, .string x.2] ++ lb) X fun e X' => e = .returned (.bool true) ∧ J S (i + 1) X' ∧ ∀ r, S r → r < X.heap.size → X'.heap[r]? = X.heap[r]?)
    (h0 : ∀ (S : Nat → Prop) W1, Below W.heap.size W W1 → (∀ r, S r → W.heap.size ≤ r ∧ r < W1.heap.size) → J S 0 W1) :
    Calls Try.prog 78 #[.func (.func cf) #[] lb, .pointer (some ⟨B, 0, none⟩)] W fun e W' => (∃ v, e = .returned v) ∧ ∃ S, J S xs.length W' := by
  have hBl := World.block_lt_of_cell? _ _ hB
  have hB1 := (hW.cell hBl).trans hB
  have hits := h W hW
  have HJB := hid hJb
  have HY := hid hY
  have HEG := hid heg
  have H0 := hid h0
  clear hY hJb h hB hBl heg h0
  go_enter Try.func78, Try.ntmps78
  go_wp2_with fail
  refine hits.mono ?_
  rintro _ W1 ⟨a1, c1, rfl, hr1, hb1, hf1⟩
  obtain ⟨m, hLm⟩ : ∃ m, xs.length = m := ⟨_, rfl⟩
  have HLM := hid hLm
  have HA := hid hr1
  have HJ1 := hid (H0.out (fun r => blk (.slice a1 m c1) r ≠ 0) W1 hb1 (fun r hr => by
    rw [← hLm] at hr
    exact ⟨Nat.le_of_not_lt fun e => hr (hf1 r e), hr1.lt hr⟩))
  clear hr1 hb1 H0 hits hf1
  rw [hLm] at hn HA ⊢
  clear hLm
  go_wp2_with fail
  go_loopw [8] (fun i wr => ∃ k : Nat, k ≤ m ∧ i = .int .i64 k ∧ Hid (J (fun r => blk (.slice a1 m c1) r ≠ 0) k wr) ∧ Hid (Row wr 34 2 (.slice a1 m c1) m (flat xs))) (fun i _ => m - (intOf i).toNat)
  case atStart => exact ⟨0, Nat.zero_le _, rfl, HJ1, HA⟩
  case round =>
    obtain ⟨k, hk, rfl, hJk, hrow⟩ := hrel
    by_cases hlt : k < m
    · obtain ⟨p, hp⟩ : ∃ p, xs[k]? = some p := ⟨xs[k]'(by rw [HLM.out]; exact hlt), List.getElem?_eq_getElem _⟩
      obtain ⟨r, o, rfl, c0, c2, c1'⟩ := (show Src wr 2 (.slice a1 xs.length c1) xs.length (flat xs) by rw [HLM.out]; exact hrow.out.src (flat_one _)).at_ k p hp
      have hr := World.block_lt_of_cell? _ _ c0
      have HP := hid hp
      clear hp
      have heg := HEG.out
      go_wp2_with fail
      have hb2 : Below wr.heap.size wr (wr.alloc (.cells #[.string p.1, .string p.2] 34)) := (by repeat' (first | exact Below.refl _ _ | with_reducible assumption | omega | with_reducible refine below_put_fut ?_ ?_ _ | with_reducible refine below_to_put ?_ | with_reducible refine Below.alloc ?_ ?_ _ | with_reducible refine Below.fut ?_ ?_ _ | with_reducible refine Below.drew ?_ | with_reducible refine Below.setCell ?_ ?_ _ | with_reducible refine Below.atPut ?_ ?_ _ | (simp [go_sem]; done) | (simp [go_sem]; omega)))
      have HB2 := hid hb2
      generalize wr.alloc (.cells _ 34) = W2 at HB2 ⊢
      clear hb2 heg
      refine (HY.out _ k p W2 HP.out (HJB.out _ _ _ _ hJk.out HB2.out)).mono ?_
      rintro e W4 ⟨rfl, hJ4, hk4⟩
      have hrow4 := hid (show Row W4 34 2 (.slice (some ⟨r, o, none⟩) m c1) m (flat xs) from hrow.out.keep fun q hq => (hk4 q hq (Nat.lt_of_lt_of_le (hrow.out.lt hq) HB2.out.size)).trans (HB2.out.block q (hrow.out.lt hq)))
      have HJ4 := hid hJ4
      clear hJ4 hk4
      go_wp2_with fail
      exact ⟨⟨k + 1, by omega, by go_num, HJ4, hrow4⟩, by simp [intOf]; omega⟩
    · obtain rfl : k = m := by omega
      go_wp2_with fail
      go_end0
      exact ⟨⟨_, rfl⟩, _, by rw [HLM.out]; exact hJk.out⟩
/-- Block gs is a shelf that holds ys; all blocks of F, which are none of its own, stay while it changes. -/
def Held (w X : World) (F : Nat → Prop) (ys : List It) (gs : Nat) : Prop := Below w.heap.size w X ∧ w.heap.size ≤ X.heap.size ∧ ys.length ≤ 200 ∧ ∃ c top, Shf 200 ys X gs c top ∧ (∀ k, F k → c k = 0 ∧ k < X.heap.size) ∧ ∀ k, c k ≠ 0 → w.heap.size ≤ k
theorem Held.on {w X Y : World} {F : Nat → Prop} {ys : List It} {gs : Nat} (h : Held w X F ys gs) (hb : Below X.heap.size X Y) : Held w Y F ys gs := by
  obtain ⟨h1, h2, h3, c, top, h4, h5, h6⟩ := h
  exact ⟨h1.trans (hb.mono h2), Nat.le_trans h2 hb.size, h3, c, top, h4.on hb, fun k hk => ⟨(h5 k hk).1, Nat.lt_of_lt_of_le (h5 k hk).2 hb.size⟩, h6⟩
theorem Held.sub {w X : World} {F G : Nat → Prop} {ys : List It} {gs : Nat} (h : Held w X F ys gs) (hg : ∀ k, G k → F k) : Held w X G ys gs := by
  obtain ⟨h1, h2, h3, c, top, h4, h5, h6⟩ := h
  exact ⟨h1, h2, h3, c, top, h4, fun k hk => h5 k (hg k hk), h6⟩
/-- Other blocks are written, and new ones made. -/
theorem Held.turn {w X Y : World} {F G : Nat → Prop} {ys : List It} {gs : Nat} (h : Held w X F ys gs) (hc : Chg (fun k => F k ∧ w.heap.size ≤ k) X Y) (hg : ∀ k, G k → k < Y.heap.size ∧ (k < X.heap.size → F k)) : Held w Y G ys gs := by
  obtain ⟨h1, h2, h3, c, top, h4, h5, h6⟩ := h
  refine ⟨h1.trans (hc.below h2 fun k hk => hk.2), Nat.le_trans h2 hc.size, h3, c, top, h4.keep fun k hk => hc.block k (h4.lt k hk) fun e => hk (h5 k e.1).1, fun k hk => ⟨?_, (hg k hk).1⟩, h6⟩
  rcases Nat.lt_or_ge k X.heap.size with e | e
  · exact (h5 k ((hg k hk).2 e)).1
  · rcases Nat.eq_zero_or_pos (c k) with z | z
    · exact z
    · have := h4.lt k (by omega); omega
theorem Held.upd {w X Y : World} {F : Nat → Prop} {ys ys' : List It} {gs : Nat} {c c' : Cnt} {top' : Value} (h1 : Below w.heap.size w X) (h2 : w.heap.size ≤ X.heap.size) (h5 : ∀ k, F k → c k = 0 ∧ k < X.heap.size) (h6 : ∀ k, c k ≠ 0 → w.heap.size ≤ k) (hl : ys'.length ≤ 200) (h : Shf 200 ys' Y gs c' top') (hu : Upd X Y c c') :
    Held w Y F ys' gs ∧ ∀ k, F k → Y.heap[k]? = X.heap[k]? := by
  refine ⟨⟨h1.trans (hu.chg.below h2 h6), Nat.le_trans h2 hu.chg.size, hl, c', top', h, fun k hk => ⟨?_, Nat.lt_of_lt_of_le (h5 k hk).2 hu.chg.size⟩, fun k hk => ?_⟩, fun k hk => hu.chg.block k (h5 k hk).2 (by rw [(h5 k hk).1]; simp)⟩
  · have := hu.old k (h5 k hk).2; have := (h5 k hk).1; omega
  · rcases Nat.lt_or_ge k X.heap.size with e | e
    · exact h6 k (by have := hu.old k e; omega)
    · omega
theorem putL_le {most : Int} {k v : ByteArray} {xs : List It} (hm : most ≤ 200) (h : xs.length ≤ 200) : (putL most k v xs).2.length ≤ 200 := by
  unfold putL
  split
  · exact h
  · split
    · exact h
    · split
      · show (repL _ _ _).length ≤ 200
        rw [repL_length]; exact h
      · split
        · exact h
        · show (insL _ _).length ≤ 200
          rw [insL_length]; omega
theorem held_put {w X : World} {F : Nat → Prop} {ys : List It} {gs : Nat} (h : Held w X F ys gs) (k v : ByteArray) :
    Calls Try.prog 26 #[.pointer (some ⟨gs, 0, none⟩), .string k, .string v] X fun e Y => e = .returned (.int .i64 (putL 200 k v ys).1) ∧ Held w Y F (putL 200 k v ys).2 gs ∧ ∀ k, F k → Y.heap[k]? = X.heap[k]? := by
  obtain ⟨h1, h2, h3, c, top, h4, h5, h6⟩ := h
  refine (put_shf h4 k v (by omega)).mono ?_
  rintro _ Y ⟨c', top', rfl, q1, q2⟩
  exact ⟨rfl, Held.upd (ys := ys) h1 h2 h5 h6 (putL_le (Int.le_refl _) h3) q1 q2⟩
theorem held_del {w X : World} {F : Nat → Prop} {ys : List It} {gs : Nat} (h : Held w X F ys gs) (k : ByteArray) (hk : k.size ≤ maxLen) :
    Calls Try.prog 51 #[.pointer (some ⟨gs, 0, none⟩), .string k] X fun e Y => e = .returned (.bool (valueOf k ys).isSome) ∧ Held w Y F (delL k ys) gs ∧ ∀ k, F k → Y.heap[k]? = X.heap[k]? := by
  obtain ⟨h1, h2, h3, c, top, h4, h5, h6⟩ := h
  refine (del_shf h4 k hk (by omega) _ rfl).mono ?_
  rintro _ Y ⟨rfl, c', top', q1, q2⟩
  exact ⟨rfl, Held.upd (ys := ys) h1 h2 h5 h6 (Nat.le_trans (List.length_filter_le _ _) h3) q1 q2⟩
theorem Held.sh {w X : World} {F : Nat → Prop} {ys : List It} {gs : Nat} (h : Held w X F ys gs) : Sh w.heap.size w 200 ys gs X := by
  obtain ⟨h1, h2, h3, c, top, h4, h5, h6⟩ := h
  exact ⟨h1, c, top, h4, h6⟩
theorem Both.held {w : World} {xs ys : List It} {gs gr : Nat} {W : World} (h : Both w.heap.size w xs ys gs gr W) (hl : xs.length ≤ 200) : ∃ v, W.heap[gr]? = some (refObj 200 v) ∧ Row W 34 2 v ys.length (flat ys) ∧ w.heap.size ≤ gr ∧ (∀ k, blk v k ≠ 0 → w.heap.size ≤ k ∧ k ≠ gr) ∧ Held w W (fun k => k = gr ∨ blk v k ≠ 0) xs gs := by
  obtain ⟨h1, h2, h3, c, top, v, h4, h5, h6, h7, h8⟩ := h
  refine ⟨v, h5, h6, h8 gr (by rw [one_self]; omega), fun k hk => ⟨h8 k (by omega), fun e => ?_⟩, h1, h2, hl, c, top, h4, fun k hk => ?_, fun k hk => h8 k (by omega)⟩
  · subst e; have := h7 k; rw [one_self] at this; omega
  · rcases hk with rfl | hk
    · exact ⟨by have := h7 k; rw [one_self] at this; omega, lt_of_heap h5⟩
    · exact ⟨by have := h7 k; omega, h6.lt hk⟩
end Go.Proofs.Ythknenhcnpgkcaa
