/- A shelf, the document's, and the book, side by side. -/
import Derived.Test.YthknenhcnpgkcaaMf
import Derived.Test.YthknenhcnpgkcaaMc
import Derived.Test.YthknenhcnpgkcaaRef4
import Derived.Test.YthknenhcnpgkcaaMr
import Derived.Test.YthknenhcnpgkcaaBkA
namespace Go.Proofs.Ythknenhcnpgkcaa
open Go.RowKit
set_option linter.unusedVariables false
set_option linter.unusedSimpArgs false
set_option maxRecDepth 100000 in
set_option maxHeartbeats 4000000 in
theorem depth_some {most : Int} {n : Nat} {W : World} {g d : Nat} {q : Kid} (hh : W.heap[g]? = some (shfObj most n (.pointer (some ⟨q.p, 0, none⟩)))) (ha : At d 1 W q) (hd1 : d ≤ 999) :
    Calls Try.prog 30 #[.pointer (some ⟨g, 0, none⟩)] W (Makes (.int .i64 ((d + 1 : Nat) : Int)) W) := by
  have hc := fun i => cell_of_row W g i _ _ (0, 0) hh
  have hgl := lt_of_heap hh
  have HA := hid ha
  clear hh ha
  go_enter Try.func30, Try.ntmps30
  go_wp2_with fail
  go_step3
  go_wp2_with fail
  go_step3
  go_wp2_with fail
  go_loopw [3, 4] (fun a x wr => ∃ (j d' lo' : Nat) (r : Kid), a = .int .i64 j ∧ x = .pointer (some ⟨r.p, 0, none⟩) ∧ j + d' = d ∧ Hid (At d' lo' W r ∧ 1 ≤ lo') ∧ ∃ u : Fut W, wr = u.val) (fun a _ _ => d + 1 - (intOf a).toNat)
  case atStart => exact ⟨0, d, 1, q, rfl, rfl, by omega, hid ⟨HA.out, Nat.le_refl _⟩, ⟨⟨_, (by repeat' (first | exact Below.refl _ _ | with_reducible assumption | omega | with_reducible refine below_put_fut ?_ ?_ _ | with_reducible refine below_to_put ?_ | with_reducible refine Below.alloc ?_ ?_ _ | with_reducible refine Below.fut ?_ ?_ _ | with_reducible refine Below.drew ?_ | with_reducible refine Below.setCell ?_ ?_ _ | with_reducible refine Below.atPut ?_ ?_ _ | (simp [go_sem]; done) | (simp [go_sem]; omega)))⟩, rfl⟩⟩
  case round =>
    obtain ⟨j, d', lo', r, rfl, rfl, hj, hw, u, rfl⟩ := hrel
    obtain ⟨iv, bv, its, kids, hN, hl1, hl2, hG⟩ := hw.out.1.node
    obtain ⟨bo, cb, rfl⟩ := owns_slice hN.below
    have hon := hid (fun W' (hB : Below W.heap.size W W') => hN.on hw.out.1.lt hB)
    have hrl := hN.lt
    have HN := hid hN
    have HG := hid hG
    have e1 : IntKind.i64.wrap ((j : Int) + 1) = (j : Int) + 1 := IntWalk.i64_in _ (by omega)
    clear hN hG
    cases d' with
    | zero =>
      have hkl : kids.length = 0 := by obtain ⟨e, _⟩ := HG.out; rw [e]; rfl
      obtain rfl : j = d := by omega
      have HLF := hid (show ((kids.length : Int) == 0) = true by rw [hkl]; rfl)
      go_wp2_with fail
      (((with_reducible refine (leaf_is _ r.p _ _ _ _ (hon.out _ (by repeat' (first | exact Below.refl _ _ | with_reducible assumption | omega | with_reducible refine below_put_fut ?_ ?_ _ | with_reducible refine below_to_put ?_ | with_reducible refine Below.alloc ?_ ?_ _ | with_reducible refine Below.fut ?_ ?_ _ | with_reducible refine Below.drew ?_ | with_reducible refine Below.setCell ?_ ?_ _ | with_reducible refine Below.atPut ?_ ?_ _ | (simp [go_sem]; done) | (simp [go_sem]; omega)))).heap true HLF.out).mono ?_)); rintro _ _ ⟨rfl, u2, rfl⟩)
      go_wp2_with fail
      (try (rw [Exit.noGoto_ret]))
      go_ret
      exact .mk (by simp) (by repeat' (first | exact Below.refl _ _ | with_reducible assumption | omega | with_reducible refine below_put_fut ?_ ?_ _ | with_reducible refine below_to_put ?_ | with_reducible refine Below.alloc ?_ ?_ _ | with_reducible refine Below.fut ?_ ?_ _ | with_reducible refine Below.drew ?_ | with_reducible refine Below.setCell ?_ ?_ _ | with_reducible refine Below.atPut ?_ ?_ _ | (simp [go_sem]; done) | (simp [go_sem]; omega)))
    | succ d' =>
      have hkl : kids.length = its.length + 1 := HG.out.1
      obtain ⟨s, hs⟩ : ∃ s, kids[0]? = some s := ⟨_, List.getElem?_eq_getElem (by omega)⟩
      have HWS := hid (show At d' 3 W s from HG.out.2.2 s (List.mem_of_getElem? hs))
      obtain ⟨rb, cb', hv, _, hrb⟩ := World.ownsRow.form HN.out.below (by omega)
      obtain rfl : bo = some ⟨rb, 0, none⟩ := by injection hv
      have hcb : W.cell? ⟨rb, 0, none⟩ = some (.pointer (some ⟨s.p, 0, none⟩)) := by
        rw [HN.out.below.cellAt 0 (by omega)]
        simp [ptrs, hs, Kid.v]
      have hc2 := fun i => cell_of_row W r.p i _ _ (0, 0) HN.out.heap
      have HLF := hid (show ((kids.length : Int) == 0) = false by rw [hkl]; simp; omega)
      have hat2 : 0 < kids.length := by omega
      have hat3 : (0 : Int) < kids.length := by omega
      generalize kids.length = kn at *
      clear hs hv
      go_wp2_with fail
      (((with_reducible refine (leaf_is _ r.p _ _ _ _ (hon.out _ (by repeat' (first | exact Below.refl _ _ | with_reducible assumption | omega | with_reducible refine below_put_fut ?_ ?_ _ | with_reducible refine below_to_put ?_ | with_reducible refine Below.alloc ?_ ?_ _ | with_reducible refine Below.fut ?_ ?_ _ | with_reducible refine Below.drew ?_ | with_reducible refine Below.setCell ?_ ?_ _ | with_reducible refine Below.atPut ?_ ?_ _ | (simp [go_sem]; done) | (simp [go_sem]; omega)))).heap false HLF.out).mono ?_)); rintro _ _ ⟨rfl, u2, rfl⟩)
      go_wp2_with fail
      exact ⟨⟨j + 1, d', 3, s, by simp, rfl, by omega, hid ⟨HWS.out, by omega⟩, ⟨⟨_, (by repeat' (first | exact Below.refl _ _ | with_reducible assumption | omega | with_reducible refine below_put_fut ?_ ?_ _ | with_reducible refine below_to_put ?_ | with_reducible refine Below.alloc ?_ ?_ _ | with_reducible refine Below.fut ?_ ?_ _ | with_reducible refine Below.drew ?_ | with_reducible refine Below.setCell ?_ ?_ _ | with_reducible refine Below.atPut ?_ ?_ _ | (simp [go_sem]; done) | (simp [go_sem]; omega)))⟩, rfl⟩⟩, by simp [intOf]; omega⟩
/-- How deep the tree is, as a number that stays. -/
theorem depth_fix {most : Int} {xs : List It} {W : World} {g : Nat} {c : Cnt} {top : Value} (h : Shf most xs W g c top) (hn : xs.length ≤ 1000) :
    ∃ D : Nat, D ≤ deepN xs.length ∧ (D = 0 ↔ xs = []) ∧ D ≤ 1000 ∧ ∀ Y, Below W.heap.size W Y → Calls Try.prog 30 #[.pointer (some ⟨g, 0, none⟩)] Y (Makes (.int .i64 D) Y) := by
  cases h.top with
  | none hx hcc =>
    refine ⟨0, Nat.zero_le _, by simp [hx], by omega, fun Y hY => ?_⟩
    refine (depth_is (h.on hY) hn).mono ?_
    rintro e W' ⟨⟨D, h1, h2, h3, h4⟩, u, hu⟩
    have : D = 0 := h3.2 hx
    subst this
    exact ⟨h1, u, hu⟩
  | some d q ha hx hg hcc =>
    have hcount := ha.count (Nat.le_refl _)
    rw [hx] at hcount
    have hp : 1 ≤ 4 ^ d := Nat.pow_pos (by omega)
    have hd4 : d < 4 ^ d := Nat.lt_pow_self (by omega)
    refine ⟨d + 1, deepN_le hcount, ⟨fun e => by omega, fun e => by rw [e] at hcount; simp at hcount⟩, by omega, fun Y hY => ?_⟩
    exact depth_some ((hY.block _ (lt_of_heap h.heap)).trans h.heap) (ha.keep fun k hk => hY.block k (ha.lt k hk)) (by omega)
/-- The document's shelf and the book. -/
structure Rest (most : Int) (ys : List It) (gr bk : Nat) (es : List Kept) (W : World) (c : Cnt) (v iv wv : Value) (cb : Cnt) : Prop where
  ref : W.heap[gr]? = some (refObj most v)
  row : Row W 34 2 v ys.length (flat ys)
  rises : Rises ys
  book : Bk W bk iv wv es cb
  cnt : ∀ k, c k = one gr k + (blk v k + cb k)
  le : ∀ k, c k ≤ 1
theorem Rest.lt {most : Int} {ys : List It} {gr bk : Nat} {es : List Kept} {W : World} {c : Cnt} {v iv wv : Value} {cb : Cnt} (h : Rest most ys gr bk es W c v iv wv cb) {k : Nat} (hk : c k ≠ 0) : k < W.heap.size := by
  have hc := h.cnt k
  by_cases e1 : one gr k = 0
  · by_cases e2 : blk v k = 0
    · exact h.book.lt (k := k) (by omega)
    · exact h.row.lt e2
  · rw [one_ne e1]; exact lt_of_heap h.ref
theorem Rest.keep {most : Int} {ys : List It} {gr bk : Nat} {es : List Kept} {W W' : World} {c : Cnt} {v iv wv : Value} {cb : Cnt} (h : Rest most ys gr bk es W c v iv wv cb) (hh : ∀ k, c k ≠ 0 → W'.heap[k]? = W.heap[k]?) : Rest most ys gr bk es W' c v iv wv cb :=
  ⟨(hh gr (by have := h.cnt gr; rw [one_self] at this; omega)).trans h.ref, h.row.keep fun k hk => hh k (by have := h.cnt k; omega), h.rises, h.book.keep fun k hk => hh k (by have := h.cnt k; omega), h.cnt, h.le⟩
theorem Rest.chg {most : Int} {ys : List It} {gr bk : Nat} {es : List Kept} {W W' : World} {c : Cnt} {v iv wv : Value} {cb : Cnt} {S : Nat → Prop} (h : Rest most ys gr bk es W c v iv wv cb) (hc : Chg S W W') (hs : ∀ k, c k ≠ 0 → ¬ S k) : Rest most ys gr bk es W' c v iv wv cb := h.keep fun k hk => hc.block k (h.lt hk) (hs k hk)
/-- A shelf at gs that holds xs, beside the document's (ys) and the book (es); of w0 only blocks of T have changed. -/
def Play (T : Nat → Prop) (w0 : World) (most : Int) (xs ys : List It) (gs gr bk : Nat) (es : List Kept) (W : World) : Prop :=
  Chg T w0 W ∧ ∃ c top c2 v iv wv cb, Shf most xs W gs c top ∧ Rest most ys gr bk es W c2 v iv wv cb ∧ (∀ k, c k + c2 k ≤ 1) ∧ ∀ k, k < w0.heap.size → c k + c2 k ≠ 0 → T k
theorem Play.on {T : Nat → Prop} {w0 : World} {most : Int} {xs ys : List It} {gs gr bk : Nat} {es : List Kept} {W W' : World} (h : Play T w0 most xs ys gs gr bk es W) (hb : Below W.heap.size W W') : Play T w0 most xs ys gs gr bk es W' := by
  obtain ⟨h1, c, top, c2, v, iv, wv, cb, h2, h3, h4, h5⟩ := h
  exact ⟨h1.trans (Chg.of_below (S := T) hb) (fun _ _ h => h), c, top, c2, v, iv, wv, cb, h2.on hb, h3.keep fun k hk => hb.block k (h3.lt hk), h4, h5⟩
/-- What an act upon the shelf alone leaves. -/
theorem Play.shelf {T : Nat → Prop} {w0 : World} {most : Int} {xs' ys : List It} {gs gr bk : Nat} {es : List Kept} {W W' : World} {c c' : Cnt} {top' : Value} (h1 : Chg T w0 W) {c2 : Cnt} {v iv wv : Value} {cb : Cnt} (h3 : Rest most ys gr bk es W c2 v iv wv cb) (h4 : ∀ k, c k + c2 k ≤ 1) (h5 : ∀ k, k < w0.heap.size → c k + c2 k ≠ 0 → T k)
    (hs : Shf most xs' W' gs c' top') (hu : Upd W W' c c') : Play T w0 most xs' ys gs gr bk es W' := by
  refine ⟨h1.trans hu.chg (fun k hk h => h5 k hk (by omega)), c', top', c2, v, iv, wv, cb, hs, h3.chg hu.chg (fun k hk h => by have := h4 k; omega), fun k => ?_, fun k hw hk => ?_⟩
  · rcases Nat.lt_or_ge k W.heap.size with e | e
    · have := hu.old k e; have := h4 k; omega
    · have h0 : c2 k = 0 := by
        rcases Nat.eq_zero_or_pos (c2 k) with z | z
        · exact z
        · have := h3.lt (k := k) (by omega); omega
      have := hu.le k
      omega
  · have := h1.size; have := hu.old k (by omega); exact h5 k hw (by omega)
theorem play_put {T : Nat → Prop} {w0 : World} {most : Int} {xs ys : List It} {gs gr bk : Nat} {es : List Kept} {W : World} (h : Play T w0 most xs ys gs gr bk es W) (hn : xs.length ≤ 1000) (k v : ByteArray) (r : Int) (xs' : List It) (he : putL most k v xs = (r, xs')) :
    Calls Try.prog 26 #[.pointer (some ⟨gs, 0, none⟩), .string k, .string v] W fun e W' => e = .returned (.int .i64 r) ∧ Play T w0 most xs' ys gs gr bk es W' := by
  obtain ⟨h1, c, top, c2, w, iv, wv, cb, h2, h3, h4, h5⟩ := h
  refine (put_shf h2 k v hn).mono ?_
  rintro _ W' ⟨c', top', rfl, k1, k2⟩
  rw [he] at k1 ⊢
  exact ⟨rfl, Play.shelf h1 h3 h4 h5 k1 k2⟩
theorem play_del {T : Nat → Prop} {w0 : World} {most : Int} {xs ys : List It} {gs gr bk : Nat} {es : List Kept} {W : World} (h : Play T w0 most xs ys gs gr bk es W) (hn : xs.length ≤ 1000) (k : ByteArray) (hk : k.size ≤ maxLen) (b : Bool) (hb : (valueOf k xs).isSome = b) :
    Calls Try.prog 51 #[.pointer (some ⟨gs, 0, none⟩), .string k] W fun e W' => e = .returned (.bool b) ∧ Play T w0 most (delL k xs) ys gs gr bk es W' := by
  obtain ⟨h1, c, top, c2, w, iv, wv, cb, h2, h3, h4, h5⟩ := h
  refine (del_shf h2 k hk hn b hb).mono ?_
  rintro e W' ⟨rfl, c', top', k1, k2⟩
  exact ⟨rfl, Play.shelf h1 h3 h4 h5 k1 k2⟩
end Go.Proofs.Ythknenhcnpgkcaa
