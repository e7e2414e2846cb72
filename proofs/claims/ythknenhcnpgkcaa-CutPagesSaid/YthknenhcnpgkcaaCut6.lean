/- Two shelves side by side that change; Out on one of them. -/
import Derived.Test.YthknenhcnpgkcaaCut5
namespace Go.Proofs.Ythknenhcnpgkcaa
open Go.RowKit Go.Shelf
set_option linter.unusedVariables false
set_option linter.unusedSimpArgs false
theorem held_base {w X W : World} {F : Nat → Prop} {ys : List It} {gs : Nat} (h : Held X W F ys gs) (hb : Below w.heap.size w X) (hz : w.heap.size ≤ X.heap.size) : Held w W (fun k => F k ∨ k < X.heap.size) ys gs := by
  obtain ⟨h1, h2, h3, c, top, h4, h5, h6⟩ := h
  refine ⟨hb.trans (h1.mono hz), Nat.le_trans hz h2, h3, c, top, h4, fun k hk => ?_, fun k hk => Nat.le_trans hz (h6 k hk)⟩
  rcases hk with hk | hk
  · exact h5 k hk
  · refine ⟨?_, by omega⟩
    rcases Nat.eq_zero_or_pos (c k) with z | z
    · exact z
    · have := h6 k (by omega); omega
/-- Blocks ga, gb are shelves that hold xs, ys; blocks of F are none of theirs. -/
def Pair (w X : World) (F : Nat → Prop) (xs ys : List It) (ga gb : Nat) : Prop :=
  ys.length ≤ 200 ∧ ∃ cb tb, Shf 200 ys X gb cb tb ∧ Held w X (fun k => F k ∨ cb k ≠ 0) xs ga ∧ (∀ k, F k → cb k = 0) ∧ ∀ k, cb k ≠ 0 → w.heap.size ≤ k
theorem Pair.left {w X : World} {F : Nat → Prop} {xs ys : List It} {ga gb : Nat} (h : Pair w X F xs ys ga gb) : Held w X F xs ga := by
  obtain ⟨h0, cb, tb, h1, h2, h3, h4⟩ := h
  exact h2.sub fun k hk => .inl hk
theorem Pair.swap {w X : World} {F : Nat → Prop} {xs ys : List It} {ga gb : Nat} (h : Pair w X F xs ys ga gb) : Pair w X F ys xs gb ga := by
  obtain ⟨h0, cb, tb, h1, ⟨q1, q2, q3, ca, ta, q4, q5, q6⟩, h3, h4⟩ := h
  refine ⟨q3, ca, ta, q4, ⟨q1, q2, h0, cb, tb, h1, fun k hk => ?_, h4⟩, fun k hk => (q5 k (.inl hk)).1, q6⟩
  rcases hk with hk | hk
  · exact ⟨h3 k hk, (q5 k (.inl hk)).2⟩
  · refine ⟨?_, q4.lt k hk⟩
    rcases Nat.eq_zero_or_pos (cb k) with e | e
    · exact e
    · exact absurd (q5 k (.inr (by omega))).1 hk
theorem Pair.on {w X Y : World} {F : Nat → Prop} {xs ys : List It} {ga gb : Nat} (h : Pair w X F xs ys ga gb) (hb : Below X.heap.size X Y) : Pair w Y F xs ys ga gb := by
  obtain ⟨h0, cb, tb, h1, h2, h3, h4⟩ := h
  exact ⟨h0, cb, tb, h1.on hb, h2.on hb, h3, h4⟩
theorem Pair.step {w X Y : World} {F G : Nat → Prop} {xs' ys : List It} {ga gb : Nat} {cb : Cnt} {tb : Value} (h0 : ys.length ≤ 200) (h1 : Shf 200 ys X gb cb tb) (h3 : ∀ k, F k → cb k = 0) (h4 : ∀ k, cb k ≠ 0 → w.heap.size ≤ k) (hk : ∀ k, cb k ≠ 0 → Y.heap[k]? = X.heap[k]?)
    (h : Held w Y (fun k => (F k ∨ cb k ≠ 0) ∨ G k) xs' ga) (hG : ∀ k, G k → X.heap.size ≤ k) : Pair w Y (fun k => F k ∨ G k) xs' ys ga gb := by
  refine ⟨h0, cb, tb, h1.keep hk, h.sub fun k hk => ?_, fun k hk => ?_, h4⟩
  · rcases hk with (hk | hk) | hk
    · exact .inl (.inl hk)
    · exact .inr hk
    · exact .inl (.inr hk)
  · rcases hk with hk | hk
    · exact h3 k hk
    · have := hG k hk
      rcases Nat.eq_zero_or_pos (cb k) with e | e
      · exact e
      · have := h1.lt k (by omega); omega
theorem pair_out {w W : World} {F : Nat → Prop} {xs ys : List It} {ga gb : Nat} (hP : Pair w W F xs ys ga gb) (a b : Int) (ha : 0 ≤ a) (ha2 : a < 18446744073709551616) (hb : 0 ≤ b) (hb2 : b < 18446744073709551616) (n : Nat) (hl : (arcL a b xs).length = n) :
    Calls Try.prog 63 #[.pointer (some ⟨ga, 0, none⟩), .agg #[.int .u64 a, .int .u64 b]] W fun e W' => ∃ ao c, e = .returned (.slice ao n c) ∧ Row W' 34 2 (.slice ao n c) n (flat (arcL a b xs)) ∧ Pair w W' (fun k => F k ∨ blk (.slice ao n c) k ≠ 0) (outL a b xs) ys ga gb ∧ (∀ k, F k → W'.heap[k]? = W.heap[k]?) ∧ ∀ k, k < W.heap.size → blk (.slice ao n c) k = 0 := by
  obtain ⟨h0, cb, tb, h1, h2, h3, h4⟩ := hP
  refine (cutOut_is h2 a b ha ha2 hb hb2 n hl).mono ?_
  rintro _ W' ⟨ao, c, rfl, q1, q2, q3, q4⟩
  exact ⟨ao, c, rfl, q1, Pair.step (G := fun k => blk (.slice ao n c) k ≠ 0) h0 h1 h3 h4 (fun k hk => q3 k (.inr hk)) q2 (fun k hk => Nat.le_of_not_lt fun e => hk (q4 k e)), fun k hk => q3 k (.inl hk), q4⟩
/-- A second filled shelf beside a first one. -/
theorem Pair.of_both {w W X : World} {F : Nat → Prop} {xs ys zs : List It} {ga gb gr : Nat} (h : Held w W F xs ga) (hb : Both W.heap.size W ys zs gb gr X) (hl : ys.length ≤ 200) : Pair w X F xs ys ga gb := by
  obtain ⟨b1, b2, b3, c, top, v, b4, b5, b6, b7, b8⟩ := hb
  have hz := h.2.1
  refine ⟨hl, c, top, b4, h.turn (G := fun k => F k ∨ c k ≠ 0) (Chg.of_below b1) (fun k hk => ?_), fun k hk => ?_, fun k hk => by have := b8 k (by omega); omega⟩
  · rcases hk with hk | hk
    · refine ⟨?_, fun _ => hk⟩
      obtain ⟨_, _, _, c', top', _, q, _⟩ := h
      exact Nat.lt_of_lt_of_le (q k hk).2 b1.size
    · exact ⟨b4.lt k hk, fun e => by have := b8 k (by omega); omega⟩
  · have hF : k < W.heap.size := by
      obtain ⟨_, _, _, c', top', _, q, _⟩ := h
      exact (q k hk).2
    rcases Nat.eq_zero_or_pos (c k) with e | e
    · exact e
    · have := b8 k (by omega); omega
end Go.Proofs.Ythknenhcnpgkcaa
