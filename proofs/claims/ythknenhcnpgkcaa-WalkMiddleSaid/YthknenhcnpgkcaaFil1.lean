import Derived.Test.YthknenhcnpgkcaaShA
import Derived.Test.YthknenhcnpgkcaaRef3
import Derived.Test.YthknenhcnpgkcaaSame
import Derived.Deep.RegionWith
/- A shelf and the document's own one, side by side; rosarylaw5.Filled. -/
namespace Go.Proofs.Ythknenhcnpgkcaa
open Go.RowKit
set_option linter.unusedVariables false
set_option linter.unusedSimpArgs false
/-- Block gs is a shelf that holds xs, block gr the document's that holds ys; they share nothing; all that has changed since w0 lies behind B. -/
def Both (B : Nat) (w0 : World) (xs ys : List It) (gs gr : Nat) (W : World) : Prop :=
  Below B w0 W ∧ B ≤ W.heap.size ∧ Rises ys ∧ ∃ c top v, Shf 200 xs W gs c top ∧ W.heap[gr]? = some (refObj 200 v) ∧ Row W 34 2 v ys.length (flat ys) ∧ (∀ k, c k + one gr k + blk v k ≤ 1) ∧ ∀ k, c k + one gr k + blk v k ≠ 0 → B ≤ k
theorem Both.base {B C : Nat} {w0 w1 : World} {xs ys : List It} {gs gr : Nat} {W : World} (h : Both B w0 xs ys gs gr W) (hb : Below C w1 w0) (hC : C ≤ B) : Both C w1 xs ys gs gr W := by
  obtain ⟨h1, h2, h3, c, top, v, h4, h5, h6, h7, h8⟩ := h
  exact ⟨hb.trans (h1.mono hC), by omega, h3, c, top, v, h4, h5, h6, h7, fun k hk => by have := h8 k hk; omega⟩
theorem Both.on {B : Nat} {w0 : World} {xs ys : List It} {gs gr : Nat} {W W' : World} (h : Both B w0 xs ys gs gr W) (hb : Below W.heap.size W W') : Both B w0 xs ys gs gr W' := by
  obtain ⟨h1, h2, h3, c, top, v, h4, h5, h6, h7, h8⟩ := h
  exact ⟨h1.trans (hb.mono h2), Nat.le_trans h2 hb.size, h3, c, top, v, h4.on hb, (hb.block gr (lt_of_heap h5)).trans h5, h6.keep fun k hk => hb.block k (h6.lt hk), h7, h8⟩
theorem Both.sh {B : Nat} {w0 : World} {xs ys : List It} {gs gr : Nat} {W : World} (h : Both B w0 xs ys gs gr W) : Sh B w0 200 xs gs W := by
  obtain ⟨h1, h2, h3, c, top, v, h4, h5, h6, h7, h8⟩ := h
  exact ⟨h1, c, top, h4, fun k hk => h8 k (by omega)⟩
theorem both_put {B : Nat} {w0 : World} {xs ys : List It} {gs gr : Nat} {W : World} (h : Both B w0 xs ys gs gr W) (hn : xs.length ≤ 1000) (k v : ByteArray) :
    Calls Try.prog 26 #[.pointer (some ⟨gs, 0, none⟩), .string k, .string v] W fun e W' => e = .returned (.int .i64 (putL 200 k v xs).1) ∧ Both B w0 (putL 200 k v xs).2 ys gs gr W' := by
  obtain ⟨h1, h2, h3, c, top, vr, h4, h5, h6, h7, h8⟩ := h
  refine (put_shf h4 k v hn).mono ?_
  rintro _ W' ⟨c', t', rfl, k4, k5⟩
  have hgl := lt_of_heap h5
  have hkeep : ∀ i, one gr i + blk vr i ≠ 0 → W'.heap[i]? = W.heap[i]? := fun i hi => k5.chg.block i (by
    by_cases e : one gr i = 0
    · exact h6.lt (by omega)
    · rw [one_ne e]; exact hgl) (fun e => by have := h7 i; omega)
  refine ⟨rfl, h1.trans (k5.chg.below h2 fun i hi => h8 i (by omega)), Nat.le_trans h2 k5.chg.size, h3, c', t', vr, k4, (hkeep gr (by rw [one_self]; omega)).trans h5, h6.keep fun i hi => hkeep i (by omega), fun i => ?_, fun i hi => ?_⟩
  · rcases Nat.lt_or_ge i W.heap.size with e | e
    · have := k5.old i e; have := h7 i; omega
    · have e1 : one gr i = 0 := by
        rcases Nat.eq_zero_or_pos (one gr i) with z | z
        · exact z
        · have := one_ne (show one gr i ≠ 0 by omega); omega
      have e2 : blk vr i = 0 := by
        rcases Nat.eq_zero_or_pos (blk vr i) with z | z
        · exact z
        · have := h6.lt (show blk vr i ≠ 0 by omega); omega
      have := k5.le i
      omega
  · rcases Nat.lt_or_ge i W.heap.size with e | e
    · have := k5.old i e; exact h8 i (by omega)
    · omega
theorem both_ref {B : Nat} {w0 : World} {xs ys : List It} {gs gr : Nat} {W : World} (h : Both B w0 xs ys gs gr W) (hn : ys.length ≤ 1000) (k v : ByteArray) :
    Calls Try.prog 54 #[.pointer (some ⟨gr, 0, none⟩), .string k, .string v] W fun e W' => e = .returned (.int .i64 (putL 200 k v ys).1) ∧ Both B w0 xs (putL 200 k v ys).2 gs gr W' := by
  obtain ⟨h1, h2, h3, c, top, vr, h4, h5, h6, h7, h8⟩ := h
  have hgv : blk vr gr = 0 := by have := h7 gr; rw [one_self] at this; omega
  refine (refPut_is W gr 200 vr ys ys.length rfl hn h5 h6 hgv h3 k v _ _ rfl).mono ?_
  rintro _ W' ⟨rfl, v', k1, k2, k3, k4⟩
  have hgl := lt_of_heap h5
  have hc : ∀ i, c i ≠ 0 → W'.heap[i]? = W.heap[i]? := fun i hi => k3.block i (h4.lt i hi) (fun e => by subst e; have := h7 i; rw [one_self] at this; omega)
  refine ⟨rfl, h1.trans (k3.below h2 fun i hi => by subst hi; exact h8 i (by rw [one_self]; omega)), Nat.le_trans h2 k3.size, putL_rises h3, c, top, v', h4.keep hc, k1, k2, fun i => ?_, fun i hi => ?_⟩
  · rcases Nat.lt_or_ge i W.heap.size with e | e
    · have := k4 i e; have := h7 i; omega
    · have e1 : one gr i = 0 := by
        rcases Nat.eq_zero_or_pos (one gr i) with z | z
        · exact z
        · have := one_ne (show one gr i ≠ 0 by omega); omega
      have e2 : c i = 0 := by
        rcases Nat.eq_zero_or_pos (c i) with z | z
        · exact z
        · have := h4.lt i (by omega); omega
      have := blk_le v' i
      omega
  · rcases Nat.lt_or_ge i W.heap.size with e | e
    · have := k4 i e; exact h8 i (by omega)
    · omega
end Go.Proofs.Ythknenhcnpgkcaa
