import Derived.Test.YthknenhcnpgkcaaSh6
import Derived.BigRegion
/- Contracts of package shelf: Put of a new key. -/
namespace Go.Proofs.Ythknenhcnpgkcaa
open Go.RowKit
set_option linter.unusedVariables false
set_option linter.unusedSimpArgs false
theorem Upd.pre {W X W' : World} {c cb c' : Cnt} (h : Upd X W' cb c') (hc : Chg (fun k => c k ≠ 0) W X) (hb : ∀ k, k < W.heap.size → cb k ≤ c k) : Upd W W' c c' :=
  ⟨hc.trans h.chg (fun i hi hn => by have := hb i hi; omega), h.le, fun i hi => Nat.le_trans (h.old i (Nat.lt_of_lt_of_le hi hc.size)) (hb i hi)⟩
/-- The shelf's own block, new blocks, and a tree that has changed. -/
theorem Upd.top {X wc W' : World} {g : Nat} {q c5 cn : Cnt} (hu : Upd X wc q c5) (hg : g < X.heap.size) (hqg : q g = 0) (hl5 : ∀ k, c5 k ≠ 0 → k < wc.heap.size) (hcn : ∀ k, k < wc.heap.size → cn k = 0) (hcn1 : ∀ k, cn k ≤ 1)
    (hos : W'.os = wc.os) (htp : W'.tape = wc.tape) (hout : W'.output = wc.output) (hsz : wc.heap.size ≤ W'.heap.size) (hk : ∀ k, k < wc.heap.size → k ≠ g → W'.heap[k]? = wc.heap[k]?) :
    Upd X W' (fun k => one g k + q k) (fun k => one g k + (cn k + c5 k)) := by
  have hg5 : c5 g = 0 := by have := hu.old g hg; omega
  have hXw := hu.chg.size
  refine ⟨⟨hos.trans hu.chg.os, htp.trans hu.chg.tape, hout.trans hu.chg.output, Nat.le_trans hu.chg.size hsz, fun k hk' hn => ?_⟩, fun k => ?_, fun k hk' => ?_⟩
  · have h1 : k ≠ g := fun e => by subst e; rw [one_self] at hn; omega
    rw [hk k (by omega) h1]
    exact hu.chg.block k hk' (by omega)
  · have h1 := hu.le k
    rcases Nat.lt_or_ge k wc.heap.size with c | c
    · rw [hcn k c]
      by_cases e : k = g
      · subst e; rw [hg5, one_self]; omega
      · have : one g k = 0 := by unfold one; rw [if_neg e]
        omega
    · have h2 := hcn1 k
      have h3 : c5 k = 0 := by
        rcases Nat.eq_zero_or_pos (c5 k) with e | e
        · exact e
        · exact absurd (hl5 k (by omega)) (by omega)
      have h4 : one g k = 0 := by unfold one; rw [if_neg (by omega)]
      omega
  · have h1 := hu.old k hk'
    rw [hcn k (by omega)]
    omega
theorem Ins.small {it : It} {xs xs' : List It} (h : Ins it xs xs') (hs : Small xs) (h1 : it.1.size ≤ maxLen) (h2 : it.2.size ≤ maxLen) : Small xs' := by
  intro i hi
  rcases (h.mem i).1 hi with rfl | hi
  · exact ⟨h1, h2⟩
  · exact hs i hi
theorem one_if {p k : Nat} (h : k ≠ p) : one p k = 0 := by unfold one; rw [if_neg h]
/-- The tree as it is, its shelf counts one more. -/
theorem fin_none {most : Int} {d : Nat} {X wc : World} {g : Nat} {q : Kid} {it : It} {c5 : Cnt} {xs' : List It} (hu : Upd X wc q.c c5) (hg : g < X.heap.size) (hqg : q.c g = 0) (hA : At d 1 wc ⟨q.p, xs', c5⟩) (hi : Ins it q.xs xs') (hr : Rises q.xs) (hs : Small q.xs) (h1 : it.1.size ≤ maxLen) (h2 : it.2.size ≤ maxLen) :
    Shf most xs' (put wc g (shfObj most xs'.length (.pointer (some ⟨q.p, 0, none⟩)))) g (fun k => one g k + (0 + c5 k)) (.pointer (some ⟨q.p, 0, none⟩)) ∧ Upd X (put wc g (shfObj most xs'.length (.pointer (some ⟨q.p, 0, none⟩)))) (fun k => one g k + q.c k) (fun k => one g k + (0 + c5 k)) := by
  have hg5 : c5 g = 0 := by have := hu.old g hg; omega
  have hgw : g < wc.heap.size := Nat.lt_of_lt_of_le hg hu.chg.size
  refine ⟨⟨heap_put_at _ _ _ hgw, hi.rises hr, hi.small hs h1 h2, .some d ⟨q.p, xs', c5⟩ (hA.keep fun k hk => heap_put_other _ _ _ _ fun e => ?_) rfl hg5 fun k => by simp⟩, ?_⟩
  · subst e
    exact hk hg5
  · exact Upd.top (cn := fun _ => 0) hu hg hqg hA.lt (fun _ _ => rfl) (fun _ => Nat.zero_le _) rfl rfl rfl (by rw [size_put]; exact Nat.le_refl _) (fun k _ hne => heap_put_other _ _ _ _ hne)
/-- A new first node over the two. -/
theorem fin_split {most : Int} {d : Nat} {X wc W' : World} {g : Nat} {q rr : Kid} {it up : It} {c1 c5 : Cnt} {xs1 : List It} {N R1 R2 : Nat} (hu : Upd X wc q.c c5) (hg : g < X.heap.size) (hqg : q.c g = 0) (hl5 : ∀ k, c5 k ≠ 0 → k < wc.heap.size)
    (hA : At d 3 wc ⟨q.p, xs1, c1⟩) (hA2 : At d 3 wc rr) (hc5 : ∀ k, c5 k = c1 k + rr.c k) (hi : Ins it q.xs (xs1 ++ up :: rr.xs)) (hr : Rises q.xs) (hs : Small q.xs) (h1 : it.1.size ≤ maxLen) (h2 : it.2.size ≤ maxLen)
    (hos : W'.os = wc.os) (htp : W'.tape = wc.tape) (hout : W'.output = wc.output) (hsz : wc.heap.size ≤ W'.heap.size) (hk : ∀ k, k < wc.heap.size → k ≠ g → W'.heap[k]? = wc.heap[k]?)
    (hN : wc.heap.size ≤ N) (hR1 : wc.heap.size ≤ R1) (hR2 : wc.heap.size ≤ R2) (n1 : N ≠ R1) (n2 : N ≠ R2) (n3 : R1 ≠ R2)
    (hhg : W'.heap[g]? = some (shfObj most (xs1 ++ up :: rr.xs).length (.pointer (some ⟨N, 0, none⟩))))
    (hhN : W'.heap[N]? = some (.cells #[.slice (some ⟨R1, 0, none⟩) 1 1, .slice (some ⟨R2, 0, none⟩) 2 2] 118))
    (hhR1 : W'.heap[R1]? = some (.cells #[.string up.1, .string up.2] 34)) (hhR2 : W'.heap[R2]? = some (.cells #[.pointer (some ⟨q.p, 0, none⟩), .pointer (some ⟨rr.p, 0, none⟩)] 110)) :
    Shf most (xs1 ++ up :: rr.xs) W' g (fun k => one g k + ((one N k + (one R1 k + one R2 k)) + c5 k)) (.pointer (some ⟨N, 0, none⟩)) ∧ Upd X W' (fun k => one g k + q.c k) (fun k => one g k + ((one N k + (one R1 k + one R2 k)) + c5 k)) := by
  have hg5 : c5 g = 0 := by have := hu.old g hg; omega
  have hgw : g < wc.heap.size := Nat.lt_of_lt_of_le hg hu.chg.size
  have hc5k : ∀ k, c5 k ≠ 0 → W'.heap[k]? = wc.heap[k]? := fun k hk' => hk k (hl5 k hk') fun e => by subst e; exact hk' hg5
  have hnew : ∀ k, one N k + (one R1 k + one R2 k) ≤ 1 := by
    intro k
    by_cases a : k = N
    · subst a; rw [one_self, one_if n1, one_if n2]; omega
    · by_cases b : k = R1
      · subst b; rw [one_self, one_if a, one_if n3]; omega
      · have := one_le R2 k
        rw [one_if a, one_if b]; omega
  have hnz : ∀ k, k < wc.heap.size → one N k + (one R1 k + one R2 k) = 0 := by
    intro k hk'
    rw [one_if (show k ≠ N by omega), one_if (show k ≠ R1 by omega), one_if (show k ≠ R2 by omega)]
  have hu2 := Upd.top (cn := fun k => one N k + (one R1 k + one R2 k)) hu hg hqg hl5 hnz hnew hos htp hout hsz hk
  refine ⟨⟨hhg, hi.rises hr, hi.small hs h1 h2, .some (d + 1) ⟨N, xs1 ++ up :: rr.xs, fun k => (one N k + (one R1 k + one R2 k)) + c5 k⟩ ?_ rfl ?_ fun k => rfl⟩, hu2⟩
  · refine ⟨.slice (some ⟨R1, 0, none⟩) 1 1, .slice (some ⟨R2, 0, none⟩) 2 2, [up], [⟨q.p, xs1, c1⟩, rr], ⟨hhN, ?_, ?_, fun k => ?_, fun k => ?_⟩, rfl, by simp, by simp, by simp [weave], fun s hs => ?_⟩
    · exact ⟨by simp [flat], .inr ⟨R1, 1, _, rfl, Nat.zero_le _, hhR1, Nat.le_refl _, by unfold maxLen; omega, rfl, by simp [flat]⟩⟩
    · exact ⟨by simp [ptrs], .inr ⟨R2, 2, _, rfl, Nat.zero_le _, hhR2, Nat.le_refl _, by unfold maxLen; omega, rfl, by simp [ptrs, Kid.v]⟩⟩
    · rw [blk_at R1 0 1 1 k none, blk_at R2 0 2 2 k none]
      simp only [sumC]
      have := hc5 k
      omega
    · have h := hu2.le k
      dsimp only at h ⊢
      omega
    · rcases List.mem_cons.1 hs with rfl | hs
      · exact hA.keep fun k hk' => hc5k k (by rw [hc5]; have : c1 k ≠ 0 := hk'; omega)
      · rw [List.mem_singleton] at hs
        subst hs
        exact hA2.keep fun k hk' => hc5k k (by rw [hc5]; omega)
  · show one N g + (one R1 g + one R2 g) + c5 g = 0
    rw [hnz g hgw, hg5]
theorem PutFormL.size {d lo : Nat} {Wc : World} {r : Kid} {it : It} {s1 s2 : ByteArray} {pr : Value} {W5 : World} (h : PutFormL d lo Wc r it s1 s2 pr W5) : Wc.heap.size ≤ W5.heap.size := by
  obtain ⟨_, _, _, h, _⟩ := h
  exact h.chg.size
theorem PutFormL.bel {d lo : Nat} {W Wc : World} {r : Kid} {it : It} {s1 s2 : ByteArray} {pr : Value} {W5 : World} (h : PutFormL d lo Wc r it s1 s2 pr W5) (hb : Below W.heap.size W Wc) : Below W.heap.size W Wc := hb
theorem PutFormL.block {d lo : Nat} {Wc : World} {r : Kid} {it : It} {s1 s2 : ByteArray} {pr : Value} {W5 : World} (h : PutFormL d lo Wc r it s1 s2 pr W5) {k : Nat} (hk : k < Wc.heap.size) (h0 : r.c k = 0) : W5.heap[k]? = Wc.heap[k]? := by
  obtain ⟨_, _, _, h, _⟩ := h
  exact h.chg.block k hk (by omega)
end Go.Proofs.Ythknenhcnpgkcaa
